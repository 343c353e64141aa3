/- Texts of the proof, one behind the other (CertL, Certs, TakeRec, ItemL, Fr, TakeItem, SpoilI, ChOf, TakesR, EBackR, BunL, IRB, RowG, Bun, Tk, SpB, IRN, NameL, Name, Parse, ParseR, NamesR, NmB, JnL). -/
import Derived.Test.YthahfhdibhgboaaM2BundleBytes
/- Lists of certificates read from bytes: the plain law. -/
set_option linter.unusedVariables false
set_option linter.unusedSimpArgs false
namespace Go.Det
open Go.Proofs

/-- Rows of three-byte vectors, to the end. -/
def cutN : Nat → List UInt8 → Option (List (List UInt8))
  | 0, l => if l = [] then some [] else none
  | k + 1, l => if l = [] then some [] else if vE l 3 = 0 then (cutN k (vL l 3)).map (vX l 3 :: ·) else none

def innerS (cs : List (List UInt8)) : List UInt8 := (cs.map certB).flatten
def listS (cs : List (List UInt8)) : List UInt8 := digits (innerS cs).length 3 3 ++ innerS cs
theorem inner_says (xs : List (AV × List UInt8)) : inner xs = innerS (says xs) := by simp only [inner, innerS, says, List.map_map]; rfl
theorem list_says (xs : List (AV × List UInt8)) : listB xs = listS (says xs) := by simp only [listB, listS, inner_says]

theorem vE3 (l : List UInt8) : vE l 3 = 0 ∨ vE l 3 = 4 := by
  unfold vE
  rw [if_neg (by decide)]
  split
  · exact .inr rfl
  · split
    · exact .inr rfl
    · exact .inl rfl
theorem vE3_iff {l : List UInt8} : vE l 3 = 0 ↔ 3 + be (l.take 3) ≤ l.length := by
  unfold vE
  rw [if_neg (by decide)]
  have e : (3 : Int).toNat = 3 := rfl
  simp only [e]
  split
  · constructor
    · intro h; cases h
    · intro h; omega
  · split
    · constructor
      · intro h; cases h
      · intro h; omega
    · constructor
      · intro h; omega
      · intro h; rfl
theorem vX3 {l : List UInt8} (h : vE l 3 = 0) : vX l 3 = (l.drop 3).take (be (l.take 3)) := by rw [vX, if_pos h]; rfl
theorem vL3 {l : List UInt8} (h : vE l 3 = 0) : vL l 3 = l.drop (3 + be (l.take 3)) := by rw [vL, if_pos h]; rfl
theorem vX3_len {l : List UInt8} (h : vE l 3 = 0) : (vX l 3).length = be (l.take 3) := by
  have := vE3_iff.1 h
  rw [vX3 h, List.length_take, List.length_drop]; omega
theorem vX3_lt (l : List UInt8) : (vX l 3).length < 16777216 := by
  unfold vX
  split
  · rename_i h
    have h1 := vE3_iff.1 h
    have h2 := be_lt (l.take 3)
    have h3 : (l.take 3).length = 3 := by rw [List.length_take]; omega
    rw [h3] at h2
    have e : (3 : Int).toNat = 3 := rfl
    rw [List.length_take, List.length_drop, e]
    omega
  · simp
theorem vL3_len {l : List UInt8} (h : vE l 3 = 0) : (vL l 3).length + 3 ≤ l.length := by
  have := vE3_iff.1 h
  rw [vL3 h, List.length_drop]; omega

/-- Read, and laid down. -/
theorem enc3 {l : List UInt8} (h : vE l 3 = 0) : certB (vX l 3) ++ vL l 3 = l := by
  have h1 := vE3_iff.1 h
  have hd := be_digits (l.take 3)
  have h3 : (l.take 3).length = 3 := by rw [List.length_take]; omega
  rw [h3] at hd
  rw [certB, vX3_len h, hd, vX3 h, vL3 h, ← List.drop_drop, List.append_assoc, List.take_append_drop, List.take_append_drop]

theorem cut_dec : ∀ (k : Nat) (l : List UInt8) (cs : List (List UInt8)), cutN k l = some cs → innerS cs = l
  | 0, l, cs, h => by
    simp only [cutN] at h
    split at h
    · rename_i e; simp only [Option.some.injEq] at h; subst h; rw [e]; rfl
    · cases h
  | k + 1, l, cs, h => by
    simp only [cutN] at h
    split at h
    · rename_i e; simp only [Option.some.injEq] at h; subst h; rw [e]; rfl
    · split at h
      · rename_i e
        simp only [Option.map_eq_some_iff] at h
        obtain ⟨ds, h1, rfl⟩ := h
        have := cut_dec k _ _ h1
        simp only [innerS, List.map_cons, List.flatten_cons] at this ⊢
        rw [this]
        exact enc3 e
      · cases h

theorem cut_some : ∀ (k : Nat) (l : List UInt8) (cs : List (List UInt8)), cutN k l = some cs → ∀ c ∈ cs, c.length < 16777216
  | 0, l, cs, h => by
    simp only [cutN] at h
    split at h
    · simp only [Option.some.injEq] at h; subst h; intro c hc; simp at hc
    · cases h
  | k + 1, l, cs, h => by
    simp only [cutN] at h
    split at h
    · simp only [Option.some.injEq] at h; subst h; intro c hc; simp at hc
    · split at h
      · simp only [Option.map_eq_some_iff] at h
        obtain ⟨ds, h1, rfl⟩ := h
        intro c hc
        rcases List.mem_cons.1 hc with rfl | hc
        · exact vX3_lt l
        · exact cut_some k _ _ h1 c hc
      · cases h

theorem innerS_cons (c : List UInt8) (cs : List (List UInt8)) : innerS (c :: cs) = certB c ++ innerS cs := by simp [innerS]
theorem innerS_len : ∀ cs : List (List UInt8), cs.length ≤ (innerS cs).length
  | [] => Nat.zero_le _
  | c :: cs => by
    have := innerS_len cs
    rw [innerS_cons]
    simp only [certB, List.length_append, digits_len, List.length_cons]
    omega

/-- The certificates that a list's inner bytes tell. -/
def cutA (l : List UInt8) : Option (List (List UInt8)) := cutN l.length l
/-- The program's: what stands behind is looked at later. -/
def certP (l : List UInt8) : Option (List (List UInt8)) := if vE l 3 = 0 then cutA (vX l 3) else none
/-- The reference's. -/
def certR (l : List UInt8) : Option (List (List UInt8)) := if vL l 3 = [] then certP l else none

theorem certR_dec {l : List UInt8} {cs : List (List UInt8)} (h : certR l = some cs) : listS cs = l ∧ ∀ c ∈ cs, c.length < 16777216 := by
  unfold certR at h
  split at h
  · rename_i e
    unfold certP at h
    split at h
    · rename_i e0
      have h1 := cut_dec _ _ _ h
      have h2 := enc3 e0
      rw [e, List.append_nil, certB] at h2
      exact ⟨by rw [listS, h1]; exact h2, cut_some _ _ _ h⟩
    · cases h
  · cases h
def mayS (cs : List (List UInt8)) : Bool := decide (1 ≤ cs.length ∧ cs.length ≤ 4) && cs.all mayC
theorem may_says (xs : List (AV × List UInt8)) : mayE xs = mayS (says xs) := by simp only [mayE, mayS, says, List.length_map, List.all_map]; rfl
theorem mayS_small {cs : List (List UInt8)} (h : mayS cs = true) : 1 ≤ cs.length ∧ cs.length ≤ 4 ∧ ∀ c ∈ cs, 1 ≤ c.length ∧ c.length ≤ 512 := by
  simp only [mayS, Bool.and_eq_true, decide_eq_true_eq, List.all_eq_true, mayC] at h
  exact ⟨h.1.1, h.1.2, h.2⟩
theorem innerS_le : ∀ (cs : List (List UInt8)), (∀ c ∈ cs, c.length ≤ 512) → (innerS cs).length ≤ 515 * cs.length
  | [], _ => Nat.zero_le _
  | c :: cs, h => by
    have h1 := innerS_le cs (fun x hx => h x (by simp [hx]))
    have h2 := h c (by simp)
    rw [innerS_cons]
    simp only [certB, List.length_append, digits_len, List.length_cons]
    omega
/-- A record's entry: time, certificates, error. -/
def recOf (l : List UInt8) : Nat × List (List UInt8) × Int :=
  match (if 8 ≤ l.length then certR (l.drop 8) else none) with
  | some cs => if mayS cs = true then (be (l.take 8), cs, 0) else (0, [], 5)
  | none => (0, [], 5)

theorem rec_bad {l : List UInt8} (h : ¬ 8 ≤ l.length) : recOf l = (0, [], 5) := by simp [recOf, h]
theorem rec_none {l : List UInt8} (h8 : 8 ≤ l.length) (h : certR (l.drop 8) = none) : recOf l = (0, [], 5) := by simp [recOf, h8, h]
theorem rec_may {l : List UInt8} {cs : List (List UInt8)} (h8 : 8 ≤ l.length) (h : certR (l.drop 8) = some cs) (hm : mayS cs = true) : recOf l = (be (l.take 8), cs, 0) := by simp [recOf, h8, h, hm]
theorem rec_not {l : List UInt8} {cs : List (List UInt8)} (h8 : 8 ≤ l.length) (h : certR (l.drop 8) = some cs) (hm : ¬ mayS cs = true) : recOf l = (0, [], 5) := by simp [recOf, h8, h, hm]

theorem be8_lt {l : List UInt8} (h : l.length ≤ 8) : be l < 2 ^ 64 := by
  have h1 := be_lt l
  have h2 : 256 ^ l.length ≤ 256 ^ 8 := Nat.pow_le_pow_right (by decide) h
  have h3 : 256 ^ 8 = 2 ^ 64 := by decide
  omega

/-- What an entry's record is, and back. -/
def recS (t : Nat) (cs : List (List UInt8)) : List UInt8 := digits t 8 8 ++ listS cs
theorem rec_dec {l : List UInt8} {t : Nat} {cs : List (List UInt8)} {E : Int} (h : recOf l = (t, cs, E)) : (E = 0 ∧ mayS cs = true ∧ recS t cs = l ∧ t < 2 ^ 64) ∨ (E = 5 ∧ t = 0 ∧ cs = []) := by
  by_cases h8 : 8 ≤ l.length
  · cases hc : certR (l.drop 8) with
    | none => rw [rec_none h8 hc] at h; simp only [Prod.mk.injEq] at h; exact .inr ⟨h.2.2.symm, h.1.symm, h.2.1.symm⟩
    | some ds =>
      by_cases hm : mayS ds = true
      · rw [rec_may h8 hc hm] at h; simp only [Prod.mk.injEq] at h
        obtain ⟨rfl, rfl, rfl⟩ := h
        refine .inl ⟨rfl, hm, ?_, be8_lt (by rw [List.length_take]; omega)⟩
        have hd := be_digits (l.take 8)
        have h3 : (l.take 8).length = 8 := by rw [List.length_take]; omega
        rw [h3] at hd
        rw [recS, (certR_dec hc).1, hd, List.take_append_drop]
      · rw [rec_not h8 hc hm] at h; simp only [Prod.mk.injEq] at h; exact .inr ⟨h.2.2.symm, h.1.symm, h.2.1.symm⟩
  · rw [rec_bad h8] at h; simp only [Prod.mk.injEq] at h; exact .inr ⟨h.2.2.symm, h.1.symm, h.2.1.symm⟩
end Go.Det

/- Lists of certificates read: the walks. -/
set_option linter.unusedVariables false
set_option linter.unusedSimpArgs false
set_option linter.unusedSectionVars false
namespace Go.Det
open Go.Proofs
attribute [local irreducible] Wp Wo Wd iop ev slots quiets wanted put

theorem OwnCh.keepB {lo rb : Nat} {h h' : H} {v : AV} {ys : List (AV × List UInt8)} (hlo : rb < lo) (x : ExtB rb h h') (o : OwnCh lo h v ys) : OwnCh lo h' v ys :=
  ⟨o.row.ext x.1 (fun b g c h1 h2 _ => x.2 b h2 (by omega)), fun p hp => (o.el p hp).keep x.1 (fun b g c h1 h2 _ => x.2 b h2 (by omega))⟩
theorem OwnCh.mono {lo lo' : Nat} {h : H} {v : AV} {ys : List (AV × List UInt8)} (o : OwnCh lo h v ys) (hl : lo' ≤ lo) : OwnCh lo' h v ys :=
  ⟨o.row.imp id (fun ⟨b, g, h1, h2⟩ => ⟨b, g, by omega, h2⟩), fun p hp => (o.el p hp).mono hl⟩

/-- One row more. -/
theorem OwnCh.add {lo : Nat} {h : H} {v c : AV} {cl : List UInt8} {ys : List (AV × List UInt8)} (o : OwnCh lo h v ys) (hlo : lo ≤ h.n) (hc : Ow lo h c cl) (hn : ys.length < 16777216) :
    ∃ H2 l' H3, (∀ {y : IX} {ρ : IX → AV}, ρ y = c → iop (.bsl 22 [.nils] 1 [(0, 1, y)]) ρ h = some (.val (.sl ⟨h.n, 0, 0⟩ 1 (.ex 1)) H2)) ∧ append H2 22 1 24 v (.sl ⟨h.n, 0, 0⟩ 1 (.ex 1)) = some (.val l' H3) ∧ OwnCh lo H3 l' (ys ++ [(c, cl)]) ∧ h.n ≤ H3.n ∧ ∀ b, b < h.n → (b < lo ∨ ∀ g c, h.get b ≠ some (.cells g 22 c 0 false)) → H3.get b = h.get b := by
  have hmx : 200000000000000 = maxRow := rfl
  have hc1 := hc.bs.parts
  have fit : fits (ys.length + 1) 24 = true := by
    simp only [fits, Bool.and_eq_true, decide_eq_true_eq]; omega
  obtain ⟨H2, hH2⟩ : ∃ H2, H2 = h.new (.cells 0 22 [c] 0 false) := ⟨_, rfl⟩
  obtain ⟨l', H3, a3, o3, n3, k3⟩ := o.row.app hlo (new := [c]) rfl (by simp [hc1.2.1]) fit (by omega) H2 hH2
  have kp : ∀ b g c, lo ≤ b → b < h.n → h.get b = some (.cells g 5 c 0 false) → H3.get b = h.get b := fun b g c h1 h2 h3 => k3 b h2 (.inr (fun g c e => by rw [h3] at e; simp at e))
  refine ⟨H2, l', H3, ?_, a3, ⟨by rw [List.map_append, List.length_append]; exact o3, fun r hr => ?_⟩, n3, k3⟩
  · intro y ρ hy
    simp [iop, fillL, hy, hc1.1, hc1.2.1, putAt, ← hH2]
  · rcases List.mem_append.1 hr with hr | hr
    · exact (o.el r hr).keep n3 kp
    · simp only [List.mem_cons, List.not_mem_nil, or_false] at hr
      subst hr
      exact hc.keep n3 kp

theorem cutN_nil (k : Nat) : cutN k [] = some [] := by cases k <;> rfl
theorem cutN_bad {k : Nat} {l : List UInt8} (hl : l ≠ []) (h : vE l 3 = 4) : cutN (k + 1) l = none := by
  simp only [cutN]; rw [if_neg hl, if_neg (by rw [h]; decide)]
theorem cutN_good {k : Nat} {l : List UInt8} (hl : l ≠ []) (h : vE l 3 = 0) : cutN (k + 1) l = (cutN k (vL l 3)).map (vX l 3 :: ·) := by
  simp only [cutN]; rw [if_neg hl, if_pos h]

set_option maxHeartbeats 2000000 in
theorem certs_loop {hb : H} {rb : Nat} {u0 : AV} (hrb : rb < hb.n) (hu0 : ∀ a n c, u0 = .sl a n c → a.b < hb.n) :
    ∀ (k : Nat) (l : List UInt8), l.length ≤ k → ∀ (h : H) (u lV : AV) (ys : List (AV × List UInt8)) (ts : List AV), ys.length + l.length < 16777216 → Rd h rb u l → SB u0 u → ExtB rb hb h → OwnCh hb.n h lV ys → ts.length = 36 → getL ts 6 = some lV → getL ts 7 = some (.ptr ⟨rb, 0, 0⟩) →
      ∀ (Q : Ex → St → Prop), (∀ ts' h' lV' zs cs, cutN k l = some cs → ExtB rb hb h' → OwnCh hb.n h' lV' zs → says zs = says ys ++ cs → ts'.length = 36 → getL ts' 6 = some lV' → Q (.exit 0) (ts', h')) → (∀ ts' h', cutN k l = none → ExtB rb hb h' → ts'.length = 36 → getL ts' 2 = some .nils → getL ts' 3 = some (.int .i64 4) → Q .ret (ts', h')) → Wp TF (.loop l83_1) (ts, h) Q := by
  have hmx : 200000000000000 = maxRow := rfl
  intro k
  induction k with
  | zero =>
    intro l hk h u lV ys ts hn hR hu hE hO t0 t6 t7 Q hQ hQ'
    obtain rfl : l = [] := List.length_eq_zero_iff.1 (by omega)
    refine Wp.loop ?_
    rw [laid_eq t0 [(6, lV), (7, .ptr ⟨rb, 0, 0⟩)] (by simp [t6, t7])]
    unfold l83_1
    refine Wp.seq ?_
    refine Wp.seq ?_
    refine Wp.region ?_
    refine Wo.pre 1 (by kernel_rfl) ?_
    refine Wo.call (by kernel_rfl) (by kernel_rfl) ((left_run hR)) ?_
    refine Wo.val (.bool false) h (by kernel_rfl) (iop_cmp (op := .gtr) (k := .i64) (a := ([] : List UInt8).length) (b := 0) false (by kernel_rfl) (by kernel_rfl) (by simp) (by simp [binInt])) ?_
    refine Wo.nil ?_
    refine Wp.cond false (by kernel_rfl) ?_
    exact Wp.exit (hQ _ _ lV ys [] (cutN_nil _) hE hO (by simp) (by kernel_rfl) (by kernel_rfl))
  | succ k ih =>
    intro l hk h u lV ys ts hn hR hu hE hO t0 t6 t7 Q hQ hQ'
    by_cases hl : l = []
    · subst hl
      refine Wp.loop ?_
      rw [laid_eq t0 [(6, lV), (7, .ptr ⟨rb, 0, 0⟩)] (by simp [t6, t7])]
      unfold l83_1
      refine Wp.seq ?_
      refine Wp.seq ?_
      refine Wp.region ?_
      refine Wo.pre 1 (by kernel_rfl) ?_
      refine Wo.call (by kernel_rfl) (by kernel_rfl) ((left_run hR)) ?_
      refine Wo.val (.bool false) h (by kernel_rfl) (iop_cmp (op := .gtr) (k := .i64) (a := ([] : List UInt8).length) (b := 0) false (by kernel_rfl) (by kernel_rfl) (by simp) (by simp [binInt])) ?_
      refine Wo.nil ?_
      refine Wp.cond false (by kernel_rfl) ?_
      exact Wp.exit (hQ _ _ lV ys [] (cutN_nil _) hE hO (by simp) (by kernel_rfl) (by kernel_rfl))
    · have hpos : 0 < l.length := List.length_pos_iff.2 hl
      obtain ⟨h1, x, u', c1, hR1, hx, hE1, hu1⟩ := vec_any hR 3 (by omega)
      have hE1' := hE.trans hE1
      rcases vE3 l with he | he
      · rw [he] at c1
        have hl3 := vL3_len he
        have hn0 := hE.1
        have hn1 := hE1'.1
        have hO1 := hO.keepB hrb hE1
        obtain ⟨H2, l', H3, b2, a3, hO3, n3, k3⟩ := hO1.add (by omega) (hx.mono hn0) (by omega)
        have hE3 : ExtB rb hb H3 := ⟨by omega, fun b hb1 hb2 => by rw [k3 b (by omega) (.inl hb1)]; exact hE1'.2 b hb1 hb2⟩
        have hub := hu.trans hu1
        have hR3 : Rd H3 rb u' (vL l 3) := hR1.keep n3 (k3 rb (by omega) (.inl hrb)) (fun a n c e => by
          obtain ⟨a0, n0, q0, e0, e1⟩ := hub a n c e
          have := hu0 a0 n0 q0 e0
          exact k3 a.b (by omega) (.inl (by omega)))
        refine Wp.loop ?_
        rw [laid_eq t0 [(6, lV), (7, .ptr ⟨rb, 0, 0⟩)] (by simp [t6, t7])]
        unfold l83_1
        refine Wp.seq ?_
        refine Wp.seq ?_
        refine Wp.region ?_
        refine Wo.pre 1 (by kernel_rfl) ?_
        refine Wo.call (by kernel_rfl) (by kernel_rfl) ((left_run hR)) ?_
        refine Wo.val (.bool true) h (by kernel_rfl) (iop_cmp (op := .gtr) (k := .i64) (a := l.length) (b := 0) true (by kernel_rfl) (by kernel_rfl) (by simp) (by simp [binInt, hpos])) ?_
        refine Wo.nil ?_
        refine Wp.cond true (by kernel_rfl) ?_
        refine Wp.skip ?_
        refine Wp.block ?_
        refine Wp.seq ?_
        refine Wp.region ?_
        refine Wo.pre 1 (by kernel_rfl) ?_
        refine Wo.call (by kernel_rfl) (by kernel_rfl) (c1) ?_
        refine Wo.pre 1 (by kernel_rfl) ?_
        refine Wo.pre 1 (by kernel_rfl) ?_
        refine Wo.pre 1 (by kernel_rfl) ?_
        refine Wo.pre 1 (by kernel_rfl) ?_
        refine Wo.pre 1 (by kernel_rfl) ?_
        refine Wo.nil ?_
        refine Wp.seq ?_
        refine Wp.seq ?_
        refine Wp.region ?_
        refine Wo.pre 1 (by kernel_rfl) ?_
        refine Wo.pre 1 (by kernel_rfl) ?_
        refine Wo.nil ?_
        refine Wp.cond false (by kernel_rfl) ?_
        refine Wp.skip ?_
        refine Wp.region ?_
        refine Wo.pre 1 (by kernel_rfl) ?_
        refine Wo.pre 1 (by kernel_rfl) ?_
        refine Wo.val _ H2 (by kernel_rfl) (b2 (by kernel_rfl)) ?_
        refine Wo.val l' H3 (by kernel_rfl) (iop_appG (v := lV) (w := .sl ⟨h1.n, 0, 0⟩ 1 (.ex 1)) (by kernel_rfl) (by kernel_rfl) rfl a3) ?_
        refine Wo.pre 1 (by kernel_rfl) ?_
        refine Wo.nil ?_
        refine ih (vL l 3) (by omega) H3 u' l' _ _ (by rw [List.length_append]; simp only [List.length_cons, List.length_nil]; omega) hR3 hub hE3 hO3 (by kernel_rfl) (by kernel_rfl) (by kernel_rfl) Q (fun ts' h' lV' zs cs q1 q2 q3 q4 q5 q6 => ?_) (fun ts' h' q1 q2 q3 q4 q5 => hQ' ts' h' (by rw [cutN_good hl he, q1]; rfl) q2 q3 q4 q5)
        exact hQ ts' h' lV' zs (vX l 3 :: cs) (by rw [cutN_good hl he, q1]; rfl) q2 q3 (by rw [q4]; simp [says]) q5 q6
      · rw [he] at c1
        refine Wp.loop ?_
        rw [laid_eq t0 [(6, lV), (7, .ptr ⟨rb, 0, 0⟩)] (by simp [t6, t7])]
        unfold l83_1
        refine Wp.seq ?_
        refine Wp.seq ?_
        refine Wp.region ?_
        refine Wo.pre 1 (by kernel_rfl) ?_
        refine Wo.call (by kernel_rfl) (by kernel_rfl) ((left_run hR)) ?_
        refine Wo.val (.bool true) h (by kernel_rfl) (iop_cmp (op := .gtr) (k := .i64) (a := l.length) (b := 0) true (by kernel_rfl) (by kernel_rfl) (by simp) (by simp [binInt, hpos])) ?_
        refine Wo.nil ?_
        refine Wp.cond true (by kernel_rfl) ?_
        refine Wp.skip ?_
        refine Wp.block ?_
        refine Wp.seq ?_
        refine Wp.region ?_
        refine Wo.pre 1 (by kernel_rfl) ?_
        refine Wo.call (by kernel_rfl) (by kernel_rfl) (c1) ?_
        refine Wo.pre 1 (by kernel_rfl) ?_
        refine Wo.pre 1 (by kernel_rfl) ?_
        refine Wo.pre 1 (by kernel_rfl) ?_
        refine Wo.pre 1 (by kernel_rfl) ?_
        refine Wo.pre 1 (by kernel_rfl) ?_
        refine Wo.nil ?_
        refine Wp.seq ?_
        refine Wp.seq ?_
        refine Wp.region ?_
        refine Wo.pre 1 (by kernel_rfl) ?_
        refine Wo.pre 1 (by kernel_rfl) ?_
        refine Wo.nil ?_
        refine Wp.cond true (by kernel_rfl) ?_
        refine Wp.seq ?_
        refine Wp.region ?_
        refine Wo.pre 1 (by kernel_rfl) ?_
        refine Wo.pre 1 (by kernel_rfl) ?_
        refine Wo.pre 1 (by kernel_rfl) ?_
        refine Wo.nil ?_
        exact Wp.ret (hQ' _ _ (cutN_bad hl he) hE1' (by kernel_rfl) (by kernel_rfl) (by kernel_rfl))

set_option maxHeartbeats 2000000 in
theorem rcerts_loop {hb : H} {rb : Nat} {u0 : AV} (hrb : rb < hb.n) (hu0 : ∀ a n c, u0 = .sl a n c → a.b < hb.n) :
    ∀ (k : Nat) (l : List UInt8), l.length ≤ k → ∀ (h : H) (u lV : AV) (ys : List (AV × List UInt8)) (ts : List AV), ys.length + l.length < 16777216 → RRd h rb u l → SB u0 u → ExtB rb hb h → OwnCh hb.n h lV ys → ts.length = 48 → getL ts 7 = some lV → getL ts 8 = some (.ptr ⟨rb, 0, 0⟩) →
      ∀ (Q : Ex → St → Prop), (∀ ts' h' lV' zs cs, cutN k l = some cs → ExtB rb hb h' → OwnCh hb.n h' lV' zs → says zs = says ys ++ cs → ts'.length = 48 → getL ts' 7 = some lV' → Q (.exit 0) (ts', h')) → (∀ ts' h', cutN k l = none → ExtB rb hb h' → ts'.length = 48 → getL ts' 2 = some .nils → getL ts' 3 = some (.bool false) → Q .ret (ts', h')) → Wp TF (.loop l84_1) (ts, h) Q := by
  have hmx : 200000000000000 = maxRow := rfl
  intro k
  induction k with
  | zero =>
    intro l hk h u lV ys ts hn hR hu hE hO t0 t6 t7 Q hQ hQ'
    obtain rfl : l = [] := List.length_eq_zero_iff.1 (by omega)
    refine Wp.loop ?_
    rw [laid_eq t0 [(7, lV), (8, .ptr ⟨rb, 0, 0⟩)] (by simp [t6, t7])]
    unfold l84_1
    refine Wp.seq ?_
    refine Wp.seq ?_
    refine Wp.region ?_
    refine Wo.pre 1 (by kernel_rfl) ?_
    refine Wo.pre 1 (by kernel_rfl) ?_
    refine Wo.pre 1 (by kernel_rfl) ?_
    refine Wo.val u h (by kernel_rfl) (iop_ld (a := ⟨rb, 0, 0⟩) (by kernel_rfl) hR.ld) ?_
    refine Wo.val (.int .i64 ([] : List UInt8).length) h (by kernel_rfl) ((hR.2.2.1.len (by kernel_rfl))) ?_
    refine Wo.val (.bool false) h (by kernel_rfl) (iop_cmp (op := .gtr) (k := .i64) (a := ([] : List UInt8).length) (b := 0) false (by kernel_rfl) (by kernel_rfl) (by simp) (by simp [binInt])) ?_
    refine Wo.nil ?_
    refine Wp.cond false (by kernel_rfl) ?_
    exact Wp.exit (hQ _ _ lV ys [] (cutN_nil _) hE hO (by simp) (by kernel_rfl) (by kernel_rfl))
  | succ k ih =>
    intro l hk h u lV ys ts hn hR hu hE hO t0 t6 t7 Q hQ hQ'
    by_cases hl : l = []
    · subst hl
      refine Wp.loop ?_
      rw [laid_eq t0 [(7, lV), (8, .ptr ⟨rb, 0, 0⟩)] (by simp [t6, t7])]
      unfold l84_1
      refine Wp.seq ?_
      refine Wp.seq ?_
      refine Wp.region ?_
      refine Wo.pre 1 (by kernel_rfl) ?_
      refine Wo.pre 1 (by kernel_rfl) ?_
      refine Wo.pre 1 (by kernel_rfl) ?_
      refine Wo.val u h (by kernel_rfl) (iop_ld (a := ⟨rb, 0, 0⟩) (by kernel_rfl) hR.ld) ?_
      refine Wo.val (.int .i64 ([] : List UInt8).length) h (by kernel_rfl) ((hR.2.2.1.len (by kernel_rfl))) ?_
      refine Wo.val (.bool false) h (by kernel_rfl) (iop_cmp (op := .gtr) (k := .i64) (a := ([] : List UInt8).length) (b := 0) false (by kernel_rfl) (by kernel_rfl) (by simp) (by simp [binInt])) ?_
      refine Wo.nil ?_
      refine Wp.cond false (by kernel_rfl) ?_
      exact Wp.exit (hQ _ _ lV ys [] (cutN_nil _) hE hO (by simp) (by kernel_rfl) (by kernel_rfl))
    · have hpos : 0 < l.length := List.length_pos_iff.2 hl
      obtain ⟨h1, x, u', c1, hR1, hx, hE1, hu1⟩ := rrvec_any hR 3 (by omega)
      have hE1' := hE.trans hE1
      rcases vE3 l with he | he
      · rw [he] at c1
        have hl3 := vL3_len he
        have hn0 := hE.1
        have hn1 := hE1'.1
        have hO1 := hO.keepB hrb hE1
        obtain ⟨H2, l', H3, b2, a3, hO3, n3, k3⟩ := hO1.add (by omega) (hx.mono hn0) (by omega)
        have hE3 : ExtB rb hb H3 := ⟨by omega, fun b hb1 hb2 => by rw [k3 b (by omega) (.inl hb1)]; exact hE1'.2 b hb1 hb2⟩
        have hub := hu.trans hu1
        have hR3 : RRd H3 rb u' (vL l 3) := hR1.keep n3 (k3 rb (by omega) (.inl hrb)) (fun a n c e => by
          obtain ⟨a0, n0, q0, e0, e1⟩ := hub a n c e
          have := hu0 a0 n0 q0 e0
          exact k3 a.b (by omega) (.inl (by omega)))
        refine Wp.loop ?_
        rw [laid_eq t0 [(7, lV), (8, .ptr ⟨rb, 0, 0⟩)] (by simp [t6, t7])]
        unfold l84_1
        refine Wp.seq ?_
        refine Wp.seq ?_
        refine Wp.region ?_
        refine Wo.pre 1 (by kernel_rfl) ?_
        refine Wo.pre 1 (by kernel_rfl) ?_
        refine Wo.pre 1 (by kernel_rfl) ?_
        refine Wo.val u h (by kernel_rfl) (iop_ld (a := ⟨rb, 0, 0⟩) (by kernel_rfl) hR.ld) ?_
        refine Wo.val (.int .i64 l.length) h (by kernel_rfl) ((hR.2.2.1.len (by kernel_rfl))) ?_
        refine Wo.val (.bool true) h (by kernel_rfl) (iop_cmp (op := .gtr) (k := .i64) (a := l.length) (b := 0) true (by kernel_rfl) (by kernel_rfl) (by simp) (by simp [binInt, hpos])) ?_
        refine Wo.nil ?_
        refine Wp.cond true (by kernel_rfl) ?_
        refine Wp.skip ?_
        refine Wp.block ?_
        refine Wp.seq ?_
        refine Wp.region ?_
        refine Wo.pre 1 (by kernel_rfl) ?_
        refine Wo.call (by kernel_rfl) (by kernel_rfl) (c1) ?_
        refine Wo.pre 1 (by kernel_rfl) ?_
        refine Wo.pre 1 (by kernel_rfl) ?_
        refine Wo.pre 1 (by kernel_rfl) ?_
        refine Wo.pre 1 (by kernel_rfl) ?_
        refine Wo.pre 1 (by kernel_rfl) ?_
        refine Wo.nil ?_
        refine Wp.seq ?_
        refine Wp.seq ?_
        refine Wp.region ?_
        refine Wo.pre 1 (by kernel_rfl) ?_
        refine Wo.pre 1 (by kernel_rfl) ?_
        refine Wo.nil ?_
        refine Wp.cond false (by kernel_rfl) ?_
        refine Wp.skip ?_
        refine Wp.region ?_
        refine Wo.pre 1 (by kernel_rfl) ?_
        refine Wo.pre 1 (by kernel_rfl) ?_
        refine Wo.val _ H2 (by kernel_rfl) (b2 (by kernel_rfl)) ?_
        refine Wo.val l' H3 (by kernel_rfl) (iop_appG (v := lV) (w := .sl ⟨h1.n, 0, 0⟩ 1 (.ex 1)) (by kernel_rfl) (by kernel_rfl) rfl a3) ?_
        refine Wo.pre 1 (by kernel_rfl) ?_
        refine Wo.nil ?_
        refine ih (vL l 3) (by omega) H3 u' l' _ _ (by rw [List.length_append]; simp only [List.length_cons, List.length_nil]; omega) hR3 hub hE3 hO3 (by kernel_rfl) (by kernel_rfl) (by kernel_rfl) Q (fun ts' h' lV' zs cs q1 q2 q3 q4 q5 q6 => ?_) (fun ts' h' q1 q2 q3 q4 q5 => hQ' ts' h' (by rw [cutN_good hl he, q1]; rfl) q2 q3 q4 q5)
        exact hQ ts' h' lV' zs (vX l 3 :: cs) (by rw [cutN_good hl he, q1]; rfl) q2 q3 (by rw [q4]; simp [says]) q5 q6
      · rw [he] at c1
        refine Wp.loop ?_
        rw [laid_eq t0 [(7, lV), (8, .ptr ⟨rb, 0, 0⟩)] (by simp [t6, t7])]
        unfold l84_1
        refine Wp.seq ?_
        refine Wp.seq ?_
        refine Wp.region ?_
        refine Wo.pre 1 (by kernel_rfl) ?_
        refine Wo.pre 1 (by kernel_rfl) ?_
        refine Wo.pre 1 (by kernel_rfl) ?_
        refine Wo.val u h (by kernel_rfl) (iop_ld (a := ⟨rb, 0, 0⟩) (by kernel_rfl) hR.ld) ?_
        refine Wo.val (.int .i64 l.length) h (by kernel_rfl) ((hR.2.2.1.len (by kernel_rfl))) ?_
        refine Wo.val (.bool true) h (by kernel_rfl) (iop_cmp (op := .gtr) (k := .i64) (a := l.length) (b := 0) true (by kernel_rfl) (by kernel_rfl) (by simp) (by simp [binInt, hpos])) ?_
        refine Wo.nil ?_
        refine Wp.cond true (by kernel_rfl) ?_
        refine Wp.skip ?_
        refine Wp.block ?_
        refine Wp.seq ?_
        refine Wp.region ?_
        refine Wo.pre 1 (by kernel_rfl) ?_
        refine Wo.call (by kernel_rfl) (by kernel_rfl) (c1) ?_
        refine Wo.pre 1 (by kernel_rfl) ?_
        refine Wo.pre 1 (by kernel_rfl) ?_
        refine Wo.pre 1 (by kernel_rfl) ?_
        refine Wo.pre 1 (by kernel_rfl) ?_
        refine Wo.pre 1 (by kernel_rfl) ?_
        refine Wo.nil ?_
        refine Wp.seq ?_
        refine Wp.seq ?_
        refine Wp.region ?_
        refine Wo.pre 1 (by kernel_rfl) ?_
        refine Wo.pre 1 (by kernel_rfl) ?_
        refine Wo.nil ?_
        refine Wp.cond true (by kernel_rfl) ?_
        refine Wp.seq ?_
        refine Wp.region ?_
        refine Wo.pre 1 (by kernel_rfl) ?_
        refine Wo.pre 1 (by kernel_rfl) ?_
        refine Wo.nil ?_
        exact Wp.ret (hQ' _ _ (cutN_bad hl he) hE1' (by kernel_rfl) (by kernel_rfl) (by kernel_rfl))

theorem certP_bad {l : List UInt8} (h : vE l 3 = 4) : certP l = none := by rw [certP, if_neg (by rw [h]; decide)]
theorem certP_good {l : List UInt8} (h : vE l 3 = 0) : certP l = cutN (vX l 3).length (vX l 3) := by rw [certP, if_pos h]; rfl

set_option maxHeartbeats 2000000 in
theorem certs_run {h : H} {b : Nat} {v : AV} {l : List UInt8} (hR : Rd h b v l) (hl : l.length ≤ maxRow) :
    ∃ r h', Runs TF 83 [.ptr ⟨b, 0, 0⟩] h r h' ∧ ∃ z E v', r = .tup [z, .int .i64 E] ∧ Rd h' b v' (vL l 3) ∧ ExtB b h h' ∧ SB v v' ∧ ((certP l = none ∧ E = 4 ∧ z = .nils) ∨ ∃ ps, certP l = some (says ps) ∧ E = 0 ∧ OwnCh h.n h' z ps) := by
  have hmx : 200000000000000 = maxRow := rfl
  refine Runs.ofP f83 rfl ?_
  obtain ⟨h1, x, v', c1, hR1, hx, hE1, hs⟩ := vec_any hR 3 hl
  rcases vE3 l with he | he
  · rw [he] at c1
    have hlt := vX3_lt l
    obtain ⟨p, h2, c2, rb, u, rfl, hrb, hR2, hX2, hu, hub⟩ := new_run hx.bs (by omega)
    have k1 := hE1.1
    have k2 := hX2.1
    have hb1 := hR1.1
    refine Wp.seq ?_
    refine Wp.region ?_
    refine Wo.pre 8 (by kernel_rfl) ?_
    refine Wo.nil ?_
    refine Wp.seq ?_
    refine Wp.region ?_
    refine Wo.pre 1 (by kernel_rfl) ?_
    refine Wo.call (by kernel_rfl) (by kernel_rfl) (c1) ?_
    refine Wo.pre 8 (by kernel_rfl) ?_
    refine Wo.nil ?_
    refine Wp.seq ?_
    refine Wp.seq ?_
    refine Wp.region ?_
    refine Wo.pre 8 (by kernel_rfl) ?_
    refine Wo.nil ?_
    refine Wp.cond false (by kernel_rfl) ?_
    refine Wp.skip ?_
    refine Wp.seq ?_
    refine Wp.region ?_
    refine Wo.pre 8 (by kernel_rfl) ?_
    refine Wo.nil ?_
    refine Wp.seq ?_
    refine Wp.seq ?_
    refine Wp.region ?_
    refine Wo.pre 1 (by kernel_rfl) ?_
    refine Wo.call (by kernel_rfl) (by kernel_rfl) (c2) ?_
    refine Wo.pre 8 (by kernel_rfl) ?_
    refine Wo.nil ?_
    refine Wp.block ?_
    refine certs_loop hR2.1 (u0 := u) (fun a n c e => hR2.2.2.1.lt e) (vX l 3).length (vX l 3) (Nat.le_refl _) h2 u .nils [] _ (by simp; omega) hR2 (SB.refl _) (Ext.b (Ext.refl _) _) ⟨.inl ⟨rfl, rfl, rfl⟩, fun p hp => by simp at hp⟩ (by kernel_rfl) (by kernel_rfl) (by kernel_rfl) _ (fun ts' h' lV' zs cs q1 q2 q3 q4 q5 q6 => ?_) (fun ts' h' q1 q2 q3 q4 q5 => ?_)
    · have hR' : Rd h' b v' (vL l 3) := hR1.keep (by have := q2.1; omega) (by rw [q2.2 b (by omega) (by omega)]; exact hX2.2 b hb1) (fun a n c e => by
        have := hR1.2.2.1.lt e
        rw [q2.2 a.b (by omega) (by omega)]; exact hX2.2 a.b this)
      have hE' : ExtB b h h' := ⟨by have := q2.1; omega, fun k hk hkb => by rw [q2.2 k (by omega) (by omega), hX2.2 k (by omega)]; exact hE1.2 k hk hkb⟩
      rw [laid_eq q5 [(6, lV')] (by simp [q6])]
      refine Wp.seq ?_
      refine Wp.region ?_
      refine Wo.pre 8 (by kernel_rfl) ?_
      refine Wo.nil ?_
      exact Wp.ret ⟨.inr rfl, _, (by kernel_rfl), lV', 0, v', rfl, hR', hE', hs, .inr ⟨zs, by rw [certP_good he, q1, q4]; rfl, rfl, q3.mono (by omega)⟩⟩
    · have hR' : Rd h' b v' (vL l 3) := hR1.keep (by have := q2.1; omega) (by rw [q2.2 b (by omega) (by omega)]; exact hX2.2 b hb1) (fun a n c e => by
        have := hR1.2.2.1.lt e
        rw [q2.2 a.b (by omega) (by omega)]; exact hX2.2 a.b this)
      have hE' : ExtB b h h' := ⟨by have := q2.1; omega, fun k hk hkb => by rw [q2.2 k (by omega) (by omega), hX2.2 k (by omega)]; exact hE1.2 k hk hkb⟩
      refine ⟨.inr rfl, .tup [.nils, .int .i64 4], ?_, .nils, 4, v', rfl, hR', hE', hs, .inl ⟨by rw [certP_good he, q1], rfl, rfl⟩⟩
      simp [retV, resOf, iop, ev, q4, q5]
  · rw [he] at c1
    refine Wp.seq ?_
    refine Wp.region ?_
    refine Wo.pre 8 (by kernel_rfl) ?_
    refine Wo.nil ?_
    refine Wp.seq ?_
    refine Wp.region ?_
    refine Wo.pre 1 (by kernel_rfl) ?_
    refine Wo.call (by kernel_rfl) (by kernel_rfl) (c1) ?_
    refine Wo.pre 8 (by kernel_rfl) ?_
    refine Wo.nil ?_
    refine Wp.seq ?_
    refine Wp.seq ?_
    refine Wp.region ?_
    refine Wo.pre 8 (by kernel_rfl) ?_
    refine Wo.nil ?_
    refine Wp.cond true (by kernel_rfl) ?_
    refine Wp.seq ?_
    refine Wp.region ?_
    refine Wo.pre 8 (by kernel_rfl) ?_
    refine Wo.nil ?_
    exact Wp.ret ⟨.inr rfl, _, (by kernel_rfl), .nils, 4, v', rfl, hR1, hE1, hs, .inl ⟨certP_bad he, rfl, rfl⟩⟩

theorem certR_bad {l : List UInt8} (h : vE l 3 = 4) : certR l = none := by rw [certR, certP_bad h]; split <;> rfl
theorem certR_more {l : List UInt8} (h : vL l 3 ≠ []) : certR l = none := by rw [certR, if_neg h]
theorem certR_good {l : List UInt8} (h : vE l 3 = 0) (h2 : vL l 3 = []) : certR l = cutN (vX l 3).length (vX l 3) := by rw [certR, if_pos h2, certP_good h]

set_option maxHeartbeats 2000000 in
theorem rcerts_run {h : H} {y : AV} {l : List UInt8} (hy : Bs h y l) (hl : l.length ≤ maxRow) :
    ∃ r h', Runs TF 84 [y] h r h' ∧ ∃ z ok, r = .tup [z, .bool ok] ∧ Ext h h' ∧ ((certR l = none ∧ ok = false ∧ z = .nils) ∨ ∃ ps, certR l = some (says ps) ∧ ok = true ∧ OwnCh h.n h' z ps) := by
  have hmx : 200000000000000 = maxRow := rfl
  refine Runs.ofP f84 rfl ?_
  obtain ⟨h0, b, v, c0, hb0, hR0, hX0, hub0⟩ := rrnew_run hy hl
  obtain ⟨h1, x, v', c1, hR1, hx, hE1, hs⟩ := rrvec_any hR0 3 hl
  have k0 := hX0.1
  have k1 := hE1.1
  have hX1 : Ext h h1 := ⟨by omega, fun k hk => by rw [hE1.2 k (by omega) (by omega)]; exact hX0.2 k hk⟩
  rcases vE3 l with he | he
  · rw [he] at c1
    have hlt := vX3_lt l
    by_cases hm : vL l 3 = []
    · rw [hm] at hR1
      obtain ⟨h2, rb, u, c2, hrb, hR2, hX2, hub⟩ := rrnew_run hx.bs (by omega)
      have k2 := hX2.1
      refine Wp.seq ?_
      refine Wp.region ?_
      refine Wo.pre 1 (by kernel_rfl) ?_
      refine Wo.pre 1 (by kernel_rfl) ?_
      refine Wo.nil ?_
      refine Wp.seq ?_
      refine Wp.region ?_
      refine Wo.pre 1 (by kernel_rfl) ?_
      refine Wo.call (by kernel_rfl) (by kernel_rfl) (c0) ?_
      refine Wo.pre 1 (by kernel_rfl) ?_
      refine Wo.nil ?_
      refine Wp.seq ?_
      refine Wp.region ?_
      refine Wo.pre 1 (by kernel_rfl) ?_
      refine Wo.call (by kernel_rfl) (by kernel_rfl) (c1) ?_
      refine Wo.pre 1 (by kernel_rfl) ?_
      refine Wo.pre 1 (by kernel_rfl) ?_
      refine Wo.pre 1 (by kernel_rfl) ?_
      refine Wo.pre 1 (by kernel_rfl) ?_
      refine Wo.pre 1 (by kernel_rfl) ?_
      refine Wo.nil ?_
      refine Wp.seq ?_
      refine Wp.seq ?_
      refine Wp.region ?_
      refine Wo.pre 1 (by kernel_rfl) ?_
      refine Wo.pre 1 (by kernel_rfl) ?_
      refine Wo.pre 1 (by kernel_rfl) ?_
      refine Wo.pre 1 (by kernel_rfl) ?_
      refine Wo.pre 1 (by kernel_rfl) ?_
      refine Wo.pre 1 (by kernel_rfl) ?_
      refine Wo.val v' h1 (by kernel_rfl) (iop_ld (a := ⟨b, 0, 0⟩) (by kernel_rfl) hR1.ld) ?_
      refine Wo.val (.int .i64 ([] : List UInt8).length) h1 (by kernel_rfl) ((hR1.2.2.1.len (by kernel_rfl))) ?_
      refine Wo.val (.bool false) h1 (by kernel_rfl) (iop_cmp (op := .gtr) (k := .i64) (a := ([] : List UInt8).length) (b := 0) false (by kernel_rfl) (by kernel_rfl) (by simp) (by simp [binInt])) ?_
      refine Wo.pre 1 (by kernel_rfl) ?_
      refine Wo.nil ?_
      refine Wp.cond false (by kernel_rfl) ?_
      refine Wp.skip ?_
      refine Wp.seq ?_
      refine Wp.region ?_
      refine Wo.pre 1 (by kernel_rfl) ?_
      refine Wo.nil ?_
      refine Wp.seq ?_
      refine Wp.region ?_
      refine Wo.pre 1 (by kernel_rfl) ?_
      refine Wo.call (by kernel_rfl) (by kernel_rfl) (c2) ?_
      refine Wo.pre 1 (by kernel_rfl) ?_
      refine Wo.nil ?_
      refine Wp.seq ?_
      refine Wp.block ?_
      refine rcerts_loop hR2.1 (u0 := u) (fun a n c e => hR2.2.2.1.lt e) (vX l 3).length (vX l 3) (Nat.le_refl _) h2 u .nils [] _ (by simp; omega) hR2 (SB.refl _) (Ext.b (Ext.refl _) _) ⟨.inl ⟨rfl, rfl, rfl⟩, fun p hp => by simp at hp⟩ (by kernel_rfl) (by kernel_rfl) (by kernel_rfl) _ (fun ts' h' lV' zs cs q1 q2 q3 q4 q5 q6 => ?_) (fun ts' h' q1 q2 q3 q4 q5 => ?_)
      · have hE' : Ext h h' := ⟨by have := q2.1; omega, fun k hk => by rw [q2.2 k (by omega) (by omega), hX2.2 k (by omega)]; exact hX1.2 k hk⟩
        rw [laid_eq q5 [(7, lV')] (by simp [q6])]
        refine Wp.seq ?_
        refine Wp.region ?_
        refine Wo.pre 8 (by kernel_rfl) ?_
        refine Wo.nil ?_
        exact Wp.ret ⟨.inr rfl, _, (by kernel_rfl), lV', true, rfl, hE', .inr ⟨zs, by rw [certR_good he hm, q1, q4]; rfl, rfl, q3.mono (by omega)⟩⟩
      · have hE' : Ext h h' := ⟨by have := q2.1; omega, fun k hk => by rw [q2.2 k (by omega) (by omega), hX2.2 k (by omega)]; exact hX1.2 k hk⟩
        refine ⟨.inr rfl, .tup [.nils, .bool false], ?_, .nils, false, rfl, hE', .inl ⟨by rw [certR_good he hm, q1], rfl, rfl⟩⟩
        simp [retV, resOf, iop, ev, q4, q5]
    · have hpos : 0 < (vL l 3).length := List.length_pos_iff.2 hm
      refine Wp.seq ?_
      refine Wp.region ?_
      refine Wo.pre 1 (by kernel_rfl) ?_
      refine Wo.pre 1 (by kernel_rfl) ?_
      refine Wo.nil ?_
      refine Wp.seq ?_
      refine Wp.region ?_
      refine Wo.pre 1 (by kernel_rfl) ?_
      refine Wo.call (by kernel_rfl) (by kernel_rfl) (c0) ?_
      refine Wo.pre 1 (by kernel_rfl) ?_
      refine Wo.nil ?_
      refine Wp.seq ?_
      refine Wp.region ?_
      refine Wo.pre 1 (by kernel_rfl) ?_
      refine Wo.call (by kernel_rfl) (by kernel_rfl) (c1) ?_
      refine Wo.pre 1 (by kernel_rfl) ?_
      refine Wo.pre 1 (by kernel_rfl) ?_
      refine Wo.pre 1 (by kernel_rfl) ?_
      refine Wo.pre 1 (by kernel_rfl) ?_
      refine Wo.pre 1 (by kernel_rfl) ?_
      refine Wo.nil ?_
      refine Wp.seq ?_
      refine Wp.seq ?_
      refine Wp.region ?_
      refine Wo.pre 1 (by kernel_rfl) ?_
      refine Wo.pre 1 (by kernel_rfl) ?_
      refine Wo.pre 1 (by kernel_rfl) ?_
      refine Wo.pre 1 (by kernel_rfl) ?_
      refine Wo.pre 1 (by kernel_rfl) ?_
      refine Wo.pre 1 (by kernel_rfl) ?_
      refine Wo.val v' h1 (by kernel_rfl) (iop_ld (a := ⟨b, 0, 0⟩) (by kernel_rfl) hR1.ld) ?_
      refine Wo.val (.int .i64 (vL l 3).length) h1 (by kernel_rfl) ((hR1.2.2.1.len (by kernel_rfl))) ?_
      refine Wo.val (.bool true) h1 (by kernel_rfl) (iop_cmp (op := .gtr) (k := .i64) (a := (vL l 3).length) (b := 0) true (by kernel_rfl) (by kernel_rfl) (by simp) (by simp [binInt, hpos])) ?_
      refine Wo.pre 1 (by kernel_rfl) ?_
      refine Wo.nil ?_
      refine Wp.cond true (by kernel_rfl) ?_
      refine Wp.seq ?_
      refine Wp.region ?_
      refine Wo.pre 1 (by kernel_rfl) ?_
      refine Wo.pre 1 (by kernel_rfl) ?_
      refine Wo.nil ?_
      exact Wp.ret ⟨.inr rfl, _, (by kernel_rfl), .nils, false, rfl, hX1, .inl ⟨certR_more hm, rfl, rfl⟩⟩
  · rw [he] at c1
    refine Wp.seq ?_
    refine Wp.region ?_
    refine Wo.pre 8 (by kernel_rfl) ?_
    refine Wo.nil ?_
    refine Wp.seq ?_
    refine Wp.region ?_
    refine Wo.pre 1 (by kernel_rfl) ?_
    refine Wo.call (by kernel_rfl) (by kernel_rfl) (c0) ?_
    refine Wo.pre 8 (by kernel_rfl) ?_
    refine Wo.nil ?_
    refine Wp.seq ?_
    refine Wp.region ?_
    refine Wo.pre 1 (by kernel_rfl) ?_
    refine Wo.call (by kernel_rfl) (by kernel_rfl) (c1) ?_
    refine Wo.pre 8 (by kernel_rfl) ?_
    refine Wo.nil ?_
    refine Wp.seq ?_
    refine Wp.seq ?_
    refine Wp.region ?_
    refine Wo.pre 8 (by kernel_rfl) ?_
    refine Wo.pre 8 (by kernel_rfl) ?_
    refine Wo.nil ?_
    refine Wp.cond true (by kernel_rfl) ?_
    refine Wp.seq ?_
    refine Wp.region ?_
    refine Wo.pre 8 (by kernel_rfl) ?_
    refine Wo.nil ?_
    exact Wp.ret ⟨.inr rfl, _, (by kernel_rfl), .nils, false, rfl, hX1, .inl ⟨certR_bad he, rfl, rfl⟩⟩
end Go.Det

/- Records read: the walks. -/
set_option linter.unusedVariables false
set_option linter.unusedSimpArgs false
set_option linter.unusedSectionVars false
namespace Go.Det
open Go.Proofs
attribute [local irreducible] Wp Wo Wd iop ev slots quiets wanted put

/-- A block of two cells is filled anew. -/
theorem fill2 {h : H} {b ty : Nat} {z1 z2 x y : AV} (g : h.get b = some (.cells 0 ty [z1, z2] 0 false)) (hx : x.one = true) (hy : y.one = true) :
    ∃ h', (∀ {u w : IX} {ρ : IX → AV}, ρ u = .ptr ⟨b, 0, 0⟩ → ρ w = .agg [x, y] → iop (.st 2 u w) ρ h = some (.val .undef h')) ∧ h'.get b = some (.cells 0 ty [x, y] 0 false) ∧ (∀ c, c ≠ b → h'.get c = h.get c) ∧ h'.n = h.n := by
  refine ⟨h.set b (.cells 0 ty [x, y] 0 false), fun hu hw => iop_stA (a := ⟨b, 0, 0⟩) (cs := [x, y]) hu hw rfl ?_, h.get_set _ _, fun c hc => h.get_set_ne _ c _ hc, rfl⟩
  unfold H.st
  simp only [g]
  rw [if_pos (by simp [hx, hy])]
  rfl

theorem iop_build2 {z1 z2 : AV} {x y : IX} {ρ : IX → AV} {h : H} {a b : AV} (hx : ρ x = a) (hy : ρ y = b) (ha : a.cells = [a]) (hb : b.cells = [b]) : iop (.build [z1, z2] [(0, 1, x), (1, 1, y)]) ρ h = some (.val (.agg [a, b]) h) := by
  simp [iop, fillL, hx, hy, ha, hb, putAt]

theorem OwnCh.none {lo : Nat} {h : H} : OwnCh lo h .nils [] := ⟨.inl ⟨rfl, rfl, rfl⟩, fun p hp => by simp at hp⟩

theorem cutN_few {k : Nat} {l : List UInt8} {cs : List (List UInt8)} (h : cutN k l = some cs) (hl : l.length < 16777216) : cs.length < 16777216 := by
  have h1 := cut_dec _ _ _ h
  have h2 := innerS_len cs
  rw [h1] at h2
  omega
theorem certP_few {l : List UInt8} {cs : List (List UInt8)} (h : certP l = some cs) : cs.length < 16777216 := by
  unfold certP at h
  split at h
  · exact cutN_few h (vX3_lt l)
  · cases h
theorem certR_few {l : List UInt8} {cs : List (List UInt8)} (h : certR l = some cs) : cs.length < 16777216 := by
  unfold certR at h
  split at h
  · exact certP_few h
  · cases h
theorem certR_of {l : List UInt8} (h : vL l 3 = []) : certR l = certP l := by rw [certR, if_pos h]

theorem rd8_bad {l : List UInt8} (h : ¬ 8 ≤ l.length) : rdE l 8 = 4 := by
  unfold rdE; rw [if_neg (by decide), if_pos (by omega)]
theorem rd8_good {l : List UInt8} (h : 8 ≤ l.length) : rdE l 8 = 0 ∧ rdV l 8 = be (l.take 8) ∧ rdL l 8 = l.drop 8 := by
  have e : rdE l 8 = 0 := by unfold rdE; rw [if_neg (by decide), if_neg (by omega)]
  exact ⟨e, by rw [rdV, if_pos e]; rfl, by rw [rdL, if_pos e]; rfl⟩

set_option maxHeartbeats 4000000 in
theorem takerec_run {h : H} {y : AV} {l : List UInt8} (hy : Bs h y l) (hl : l.length ≤ maxRow) : ∃ r h', Runs TF 54 [y] h r h' ∧ ∃ t z ps E, r = .tup [entV t z, .int .i64 E] ∧ Ext h h' ∧ OwnCh h.n h' z ps ∧ recOf l = (t, says ps, E) := by
  refine Runs.ofP f54 rfl ?_
  have hmx : 200000000000000 = maxRow := rfl
  have o3 : ∀ k i, (AV.int k i).one = true := fun _ _ => rfl
  obtain ⟨H1, hH1⟩ : ∃ H1, H1 = h.new (.cells 0 70 [.int .u64 0, .nils] 0 false) := ⟨_, rfl⟩
  have X1 : Ext h H1 := by rw [hH1]; exact Ext.new _ _
  have n1 : h.n < H1.n := by rw [hH1]; simp
  have g1 : H1.get h.n = some (.cells 0 70 [.int .u64 0, .nils] 0 false) := by rw [hH1]; exact h.get_new _
  have en1 : ∀ ts, iop (.new 70 (.c (.agg [.int .u64 0, .nils]))) (ev ts) h = some (.val (.ptr ⟨h.n, 0, 0⟩) H1) := fun ts => by rw [hH1]; exact iop_new (by kernel_rfl) rfl
  obtain ⟨p, H2, c2, rb, u, rfl, hrb, hR2, X2, hu, hub⟩ := new_run (hy.ext X1) hl
  obtain ⟨H3, u3, c3, hR3, E3, s3⟩ := rdnum_any hR2 8 hl
  have m1 := X1.1
  have m2 := X2.1
  have m3 := E3.1
  have k3 : ∀ b, b < H1.n → H3.get b = H1.get b := fun b hb => by rw [E3.2 b (by omega) (by omega)]; exact X2.2 b hb
  by_cases h8 : 8 ≤ l.length
  · obtain ⟨e1, e2, e3⟩ := rd8_good h8
    rw [e1, e2] at c3
    rw [e3] at hR3
    have hd8 : (l.drop 8).length ≤ maxRow := by rw [List.length_drop]; omega
    obtain ⟨r4, H4, c4, z, E, u4, rfl, hR4, E4, s4, hz⟩ := certs_run hR3 hd8
    have m4 := E4.1
    have k4 : ∀ b, b < H1.n → H4.get b = H1.get b := fun b hb => by rw [E4.2 b (by omega) (by omega)]; exact k3 b hb
    rcases hz with ⟨q1, rfl, rfl⟩ | ⟨ps, q1, rfl, q3⟩
    · obtain ⟨H5a, H5, X5, n5, g5, en5, st5, _, _⟩ := made2 (h := H4) 70 (z1 := .int .u64 0) (z2 := .nils) (x := .int .u64 (be (l.take 8) : Nat)) (y := .nils) rfl rfl rfl
      have m5 := X5.1
      have gz : H5.get h.n = some (.cells 0 70 [.int .u64 0, .nils] 0 false) := by rw [X5.2 _ (by omega), k4 _ n1]; exact g1
      obtain ⟨Hz, sz, gz', kz, nz⟩ := fill2 (x := .int .u64 0) (y := .nils) gz rfl rfl
      have LA : Hz.ldg ⟨h.n, 0, 0⟩ (some 2) = some (entV 0 .nils) := (ld_two gz').1
      refine Wp.seq ?_
      refine Wp.region ?_
      refine Wo.val _ _ (by kernel_rfl) (en1 _) ?_
      refine Wo.pre 8 (by kernel_rfl) ?_
      refine Wo.nil ?_
      refine Wp.seq ?_
      refine Wp.region ?_
      refine Wo.pre 1 (by kernel_rfl) ?_
      refine Wo.call (by kernel_rfl) (by kernel_rfl) (c2) ?_
      refine Wo.pre 8 (by kernel_rfl) ?_
      refine Wo.nil ?_
      refine Wp.seq ?_
      refine Wp.region ?_
      refine Wo.pre 1 (by kernel_rfl) ?_
      refine Wo.call (by kernel_rfl) (by kernel_rfl) (c3) ?_
      refine Wo.pre 8 (by kernel_rfl) ?_
      refine Wo.nil ?_
      refine Wp.seq ?_
      refine Wp.seq ?_
      refine Wp.region ?_
      refine Wo.pre 8 (by kernel_rfl) ?_
      refine Wo.nil ?_
      refine Wp.cond false (by kernel_rfl) ?_
      refine Wp.skip ?_
      refine Wp.seq ?_
      refine Wp.region ?_
      refine Wo.pre 1 (by kernel_rfl) ?_
      refine Wo.call (by kernel_rfl) (by kernel_rfl) (c4) ?_
      refine Wo.pre 8 (by kernel_rfl) ?_
      refine Wo.nil ?_
      refine Wp.seq ?_
      refine Wp.region ?_
      refine Wo.pre 3 (by kernel_rfl) ?_
      refine Wo.val _ _ (by kernel_rfl) (en5 (by kernel_rfl)) ?_
      refine Wo.val _ _ (by kernel_rfl) (st5 (by kernel_rfl) (by kernel_rfl)) ?_
      refine Wo.nil ?_
      refine Wp.seq ?_
      refine Wp.seq ?_
      refine Wp.region ?_
      refine Wo.pre 8 (by kernel_rfl) ?_
      refine Wo.pre 8 (by kernel_rfl) ?_
      refine Wo.nil ?_
      refine Wp.cond true (by kernel_rfl) ?_
      refine Wp.seq ?_
      refine Wp.region ?_
      refine Wo.pre 1 (by kernel_rfl) ?_
      refine Wo.val .undef Hz (by kernel_rfl) (sz (by kernel_rfl) (by kernel_rfl)) ?_
      refine Wo.pre 8 (by kernel_rfl) ?_
      refine Wo.nil ?_
      exact Wp.ret ⟨.inr rfl, _, retI LA (by kernel_rfl) (by kernel_rfl), 0, .nils, [], 5, rfl, ⟨by rw [nz]; omega, fun b hb => by rw [kz b (by omega)]; rw [X5.2 b (by omega), k4 b (by omega)]; exact X1.2 b hb⟩, OwnCh.none, rec_none h8 (by unfold certR; split; exact q1; rfl)⟩
    · have pz := q3.ch.parts
      obtain ⟨H5a, H5, X5, n5, g5, en5, st5, _, _⟩ := made2 (h := H4) 70 (z1 := .int .u64 0) (z2 := .nils) (x := .int .u64 (be (l.take 8) : Nat)) (y := z) rfl rfl pz.2.1
      have m5 := X5.1
      have hfew : ps.length < 16777216 := by have := certP_few q1; rw [says_len] at this; exact this
      have hR5 : Rd H5 rb u4 (vL (l.drop 8) 3) := hR4.keep m5 (X5.2 _ hR4.1) (fun a n c e => X5.2 _ (hR4.2.2.1.lt e))
      by_cases hm : vL (l.drop 8) 3 = []
      · rw [hm] at hR5
        obtain ⟨r6, H6, c6, rfl, X6⟩ := may_run (q3.ch.ext X5) (by omega) (be (l.take 8))
        have m6 := X6.1
        have l5 := ld_two g5
        have l6 := ld_two ((X6.2 _ (by omega)).trans g5)
        have gz6 : H6.get h.n = some (.cells 0 70 [.int .u64 0, .nils] 0 false) := by rw [X6.2 _ (by omega), X5.2 _ (by omega), k4 _ n1]; exact g1
        by_cases hmay : mayE ps = true
        · rw [hmay] at c6
          obtain ⟨H7, s7, g7, k7, n7⟩ := fill2 (x := .int .u64 (be (l.take 8) : Nat)) (y := z) gz6 rfl pz.2.1
          have LA : H7.ldg ⟨h.n, 0, 0⟩ (some 2) = some (entV (be (l.take 8)) z) := (ld_two g7).1
          refine Wp.seq ?_
          refine Wp.region ?_
          refine Wo.val _ _ (by kernel_rfl) (en1 _) ?_
          refine Wo.pre 1 (by kernel_rfl) ?_
          refine Wo.nil ?_
          refine Wp.seq ?_
          refine Wp.region ?_
          refine Wo.pre 1 (by kernel_rfl) ?_
          refine Wo.call (by kernel_rfl) (by kernel_rfl) (c2) ?_
          refine Wo.pre 1 (by kernel_rfl) ?_
          refine Wo.nil ?_
          refine Wp.seq ?_
          refine Wp.region ?_
          refine Wo.pre 1 (by kernel_rfl) ?_
          refine Wo.call (by kernel_rfl) (by kernel_rfl) (c3) ?_
          refine Wo.pre 1 (by kernel_rfl) ?_
          refine Wo.pre 1 (by kernel_rfl) ?_
          refine Wo.pre 1 (by kernel_rfl) ?_
          refine Wo.pre 1 (by kernel_rfl) ?_
          refine Wo.pre 1 (by kernel_rfl) ?_
          refine Wo.nil ?_
          refine Wp.seq ?_
          refine Wp.seq ?_
          refine Wp.region ?_
          refine Wo.pre 1 (by kernel_rfl) ?_
          refine Wo.pre 1 (by kernel_rfl) ?_
          refine Wo.nil ?_
          refine Wp.cond false (by kernel_rfl) ?_
          refine Wp.skip ?_
          refine Wp.seq ?_
          refine Wp.region ?_
          refine Wo.pre 1 (by kernel_rfl) ?_
          refine Wo.call (by kernel_rfl) (by kernel_rfl) (c4) ?_
          refine Wo.pre 1 (by kernel_rfl) ?_
          refine Wo.pre 1 (by kernel_rfl) ?_
          refine Wo.pre 1 (by kernel_rfl) ?_
          refine Wo.pre 1 (by kernel_rfl) ?_
          refine Wo.pre 1 (by kernel_rfl) ?_
          refine Wo.nil ?_
          refine Wp.seq ?_
          refine Wp.region ?_
          refine Wo.pre 1 (by kernel_rfl) ?_
          refine Wo.pre 1 (by kernel_rfl) ?_
          refine Wo.val _ _ (by kernel_rfl) (iop_build2 (a := .int .u64 (be (l.take 8) : Nat)) (b := z) (by kernel_rfl) (by kernel_rfl) rfl pz.1) ?_
          refine Wo.val _ _ (by kernel_rfl) (en5 (by kernel_rfl)) ?_
          refine Wo.val _ _ (by kernel_rfl) (st5 (by kernel_rfl) (by kernel_rfl)) ?_
          refine Wo.nil ?_
          refine Wp.seq ?_
          refine Wp.seq ?_
          refine Wp.region ?_
          refine Wo.pre 1 (by kernel_rfl) ?_
          refine Wo.pre 1 (by kernel_rfl) ?_
          refine Wo.pre 1 (by kernel_rfl) ?_
          refine Wo.pre 1 (by kernel_rfl) ?_
          refine Wo.call (by kernel_rfl) (by kernel_rfl) ((left_run hR5)) ?_
          refine Wo.val (.bool false) H5 (by kernel_rfl) (iop_cmp (op := .gtr) (k := .i64) (a := ([] : List UInt8).length) (b := 0) false (by kernel_rfl) (by kernel_rfl) (by simp) (by simp [binInt])) ?_
          refine Wo.pre 1 (by kernel_rfl) ?_
          refine Wo.pre 1 (by kernel_rfl) ?_
          refine Wo.val (entV (be (l.take 8)) z) H5 (by kernel_rfl) (iop_ld (a := ⟨H4.n, 0, 0⟩) (by kernel_rfl) l5.1) ?_
          refine Wo.call (by kernel_rfl) (by kernel_rfl) (c6) ?_
          refine Wo.pre 1 (by kernel_rfl) ?_
          refine Wo.pre 1 (by kernel_rfl) ?_
          refine Wo.nil ?_
          refine Wp.cond false (by kernel_rfl) ?_
          refine Wp.skip ?_
          refine Wp.seq ?_
          refine Wp.region ?_
          refine Wo.val (entV (be (l.take 8)) z) H6 (by kernel_rfl) (iop_ld (a := ⟨H4.n, 0, 0⟩) (by kernel_rfl) l6.1) ?_
          refine Wo.val .undef H7 (by kernel_rfl) (s7 (by kernel_rfl) (by kernel_rfl)) ?_
          refine Wo.pre 1 (by kernel_rfl) ?_
          refine Wo.nil ?_
          exact Wp.ret ⟨.inr rfl, _, retI LA (by kernel_rfl) (by kernel_rfl), be (l.take 8), z, ps, 0, rfl, ⟨by rw [n7]; omega, fun b hb => by rw [k7 b (by omega), X6.2 b (by omega), X5.2 b (by omega), k4 b (by omega)]; exact X1.2 b hb⟩, (((q3.ext X5).ext X6).keepB (rb := h.n) (by omega) ⟨by omega, fun k _ hk => k7 k hk⟩).mono (by omega), rec_may h8 (by rw [certR_of hm]; exact q1) (by rw [← may_says]; exact hmay)⟩
        · have hmay' : mayE ps = false := by simpa using hmay
          rw [hmay'] at c6
          have gz : H6.get h.n = some (.cells 0 70 [.int .u64 0, .nils] 0 false) := gz6
          obtain ⟨Hz, sz, gz', kz, nz⟩ := fill2 (x := .int .u64 0) (y := .nils) gz rfl rfl
          have LA : Hz.ldg ⟨h.n, 0, 0⟩ (some 2) = some (entV 0 .nils) := (ld_two gz').1
          refine Wp.seq ?_
          refine Wp.region ?_
          refine Wo.val _ _ (by kernel_rfl) (en1 _) ?_
          refine Wo.pre 1 (by kernel_rfl) ?_
          refine Wo.nil ?_
          refine Wp.seq ?_
          refine Wp.region ?_
          refine Wo.pre 1 (by kernel_rfl) ?_
          refine Wo.call (by kernel_rfl) (by kernel_rfl) (c2) ?_
          refine Wo.pre 1 (by kernel_rfl) ?_
          refine Wo.nil ?_
          refine Wp.seq ?_
          refine Wp.region ?_
          refine Wo.pre 1 (by kernel_rfl) ?_
          refine Wo.call (by kernel_rfl) (by kernel_rfl) (c3) ?_
          refine Wo.pre 1 (by kernel_rfl) ?_
          refine Wo.pre 1 (by kernel_rfl) ?_
          refine Wo.pre 1 (by kernel_rfl) ?_
          refine Wo.pre 1 (by kernel_rfl) ?_
          refine Wo.pre 1 (by kernel_rfl) ?_
          refine Wo.nil ?_
          refine Wp.seq ?_
          refine Wp.seq ?_
          refine Wp.region ?_
          refine Wo.pre 1 (by kernel_rfl) ?_
          refine Wo.pre 1 (by kernel_rfl) ?_
          refine Wo.nil ?_
          refine Wp.cond false (by kernel_rfl) ?_
          refine Wp.skip ?_
          refine Wp.seq ?_
          refine Wp.region ?_
          refine Wo.pre 1 (by kernel_rfl) ?_
          refine Wo.call (by kernel_rfl) (by kernel_rfl) (c4) ?_
          refine Wo.pre 1 (by kernel_rfl) ?_
          refine Wo.pre 1 (by kernel_rfl) ?_
          refine Wo.pre 1 (by kernel_rfl) ?_
          refine Wo.pre 1 (by kernel_rfl) ?_
          refine Wo.pre 1 (by kernel_rfl) ?_
          refine Wo.nil ?_
          refine Wp.seq ?_
          refine Wp.region ?_
          refine Wo.pre 1 (by kernel_rfl) ?_
          refine Wo.pre 1 (by kernel_rfl) ?_
          refine Wo.val _ _ (by kernel_rfl) (iop_build2 (a := .int .u64 (be (l.take 8) : Nat)) (b := z) (by kernel_rfl) (by kernel_rfl) rfl pz.1) ?_
          refine Wo.val _ _ (by kernel_rfl) (en5 (by kernel_rfl)) ?_
          refine Wo.val _ _ (by kernel_rfl) (st5 (by kernel_rfl) (by kernel_rfl)) ?_
          refine Wo.nil ?_
          refine Wp.seq ?_
          refine Wp.seq ?_
          refine Wp.region ?_
          refine Wo.pre 1 (by kernel_rfl) ?_
          refine Wo.pre 1 (by kernel_rfl) ?_
          refine Wo.pre 1 (by kernel_rfl) ?_
          refine Wo.pre 1 (by kernel_rfl) ?_
          refine Wo.call (by kernel_rfl) (by kernel_rfl) ((left_run hR5)) ?_
          refine Wo.val (.bool false) H5 (by kernel_rfl) (iop_cmp (op := .gtr) (k := .i64) (a := ([] : List UInt8).length) (b := 0) false (by kernel_rfl) (by kernel_rfl) (by simp) (by simp [binInt])) ?_
          refine Wo.pre 1 (by kernel_rfl) ?_
          refine Wo.pre 1 (by kernel_rfl) ?_
          refine Wo.val (entV (be (l.take 8)) z) H5 (by kernel_rfl) (iop_ld (a := ⟨H4.n, 0, 0⟩) (by kernel_rfl) l5.1) ?_
          refine Wo.call (by kernel_rfl) (by kernel_rfl) (c6) ?_
          refine Wo.pre 1 (by kernel_rfl) ?_
          refine Wo.pre 1 (by kernel_rfl) ?_
          refine Wo.nil ?_
          refine Wp.cond true (by kernel_rfl) ?_
          refine Wp.seq ?_
          refine Wp.region ?_
          refine Wo.pre 1 (by kernel_rfl) ?_
          refine Wo.val .undef Hz (by kernel_rfl) (sz (by kernel_rfl) (by kernel_rfl)) ?_
          refine Wo.pre 1 (by kernel_rfl) ?_
          refine Wo.nil ?_
          exact Wp.ret ⟨.inr rfl, _, retI LA (by kernel_rfl) (by kernel_rfl), 0, .nils, [], 5, rfl, ⟨by rw [nz]; omega, fun b hb => by rw [kz b (by omega)]; rw [X6.2 b (by omega), X5.2 b (by omega), k4 b (by omega)]; exact X1.2 b hb⟩, OwnCh.none, rec_not h8 (by rw [certR_of hm]; exact q1) (by rw [← may_says]; exact hmay)⟩
      · have hpos : 0 < (vL (l.drop 8) 3).length := List.length_pos_iff.2 hm
        have gz : H5.get h.n = some (.cells 0 70 [.int .u64 0, .nils] 0 false) := by rw [X5.2 _ (by omega), k4 _ n1]; exact g1
        obtain ⟨Hz, sz, gz', kz, nz⟩ := fill2 (x := .int .u64 0) (y := .nils) gz rfl rfl
        have LA : Hz.ldg ⟨h.n, 0, 0⟩ (some 2) = some (entV 0 .nils) := (ld_two gz').1
        refine Wp.seq ?_
        refine Wp.region ?_
        refine Wo.val _ _ (by kernel_rfl) (en1 _) ?_
        refine Wo.pre 1 (by kernel_rfl) ?_
        refine Wo.nil ?_
        refine Wp.seq ?_
        refine Wp.region ?_
        refine Wo.pre 1 (by kernel_rfl) ?_
        refine Wo.call (by kernel_rfl) (by kernel_rfl) (c2) ?_
        refine Wo.pre 1 (by kernel_rfl) ?_
        refine Wo.nil ?_
        refine Wp.seq ?_
        refine Wp.region ?_
        refine Wo.pre 1 (by kernel_rfl) ?_
        refine Wo.call (by kernel_rfl) (by kernel_rfl) (c3) ?_
        refine Wo.pre 1 (by kernel_rfl) ?_
        refine Wo.pre 1 (by kernel_rfl) ?_
        refine Wo.pre 1 (by kernel_rfl) ?_
        refine Wo.pre 1 (by kernel_rfl) ?_
        refine Wo.pre 1 (by kernel_rfl) ?_
        refine Wo.nil ?_
        refine Wp.seq ?_
        refine Wp.seq ?_
        refine Wp.region ?_
        refine Wo.pre 1 (by kernel_rfl) ?_
        refine Wo.pre 1 (by kernel_rfl) ?_
        refine Wo.nil ?_
        refine Wp.cond false (by kernel_rfl) ?_
        refine Wp.skip ?_
        refine Wp.seq ?_
        refine Wp.region ?_
        refine Wo.pre 1 (by kernel_rfl) ?_
        refine Wo.call (by kernel_rfl) (by kernel_rfl) (c4) ?_
        refine Wo.pre 1 (by kernel_rfl) ?_
        refine Wo.pre 1 (by kernel_rfl) ?_
        refine Wo.pre 1 (by kernel_rfl) ?_
        refine Wo.pre 1 (by kernel_rfl) ?_
        refine Wo.pre 1 (by kernel_rfl) ?_
        refine Wo.nil ?_
        refine Wp.seq ?_
        refine Wp.region ?_
        refine Wo.pre 1 (by kernel_rfl) ?_
        refine Wo.pre 1 (by kernel_rfl) ?_
        refine Wo.val _ _ (by kernel_rfl) (iop_build2 (a := .int .u64 (be (l.take 8) : Nat)) (b := z) (by kernel_rfl) (by kernel_rfl) rfl pz.1) ?_
        refine Wo.val _ _ (by kernel_rfl) (en5 (by kernel_rfl)) ?_
        refine Wo.val _ _ (by kernel_rfl) (st5 (by kernel_rfl) (by kernel_rfl)) ?_
        refine Wo.nil ?_
        refine Wp.seq ?_
        refine Wp.seq ?_
        refine Wp.region ?_
        refine Wo.pre 1 (by kernel_rfl) ?_
        refine Wo.pre 1 (by kernel_rfl) ?_
        refine Wo.pre 1 (by kernel_rfl) ?_
        refine Wo.pre 1 (by kernel_rfl) ?_
        refine Wo.call (by kernel_rfl) (by kernel_rfl) ((left_run hR5)) ?_
        refine Wo.val (.bool true) H5 (by kernel_rfl) (iop_cmp (op := .gtr) (k := .i64) (a := (vL (l.drop 8) 3).length) (b := 0) true (by kernel_rfl) (by kernel_rfl) (by simp) (by simp [binInt, hpos])) ?_
        refine Wo.pre 1 (by kernel_rfl) ?_
        refine Wo.pre 1 (by kernel_rfl) ?_
        refine Wo.pre 1 (by kernel_rfl) ?_
        refine Wo.pre 1 (by kernel_rfl) ?_
        refine Wo.pre 1 (by kernel_rfl) ?_
        refine Wo.pre 1 (by kernel_rfl) ?_
        refine Wo.nil ?_
        refine Wp.cond true (by kernel_rfl) ?_
        refine Wp.seq ?_
        refine Wp.region ?_
        refine Wo.pre 1 (by kernel_rfl) ?_
        refine Wo.val .undef Hz (by kernel_rfl) (sz (by kernel_rfl) (by kernel_rfl)) ?_
        refine Wo.pre 1 (by kernel_rfl) ?_
        refine Wo.nil ?_
        exact Wp.ret ⟨.inr rfl, _, retI LA (by kernel_rfl) (by kernel_rfl), 0, .nils, [], 5, rfl, ⟨by rw [nz]; omega, fun b hb => by rw [kz b (by omega)]; rw [X5.2 b (by omega), k4 b (by omega)]; exact X1.2 b hb⟩, OwnCh.none, rec_none h8 (certR_more hm)⟩
  · rw [rd8_bad h8] at c3
    have gz : H3.get h.n = some (.cells 0 70 [.int .u64 0, .nils] 0 false) := by rw [k3 _ n1]; exact g1
    obtain ⟨Hz, sz, gz', kz, nz⟩ := fill2 (x := .int .u64 0) (y := .nils) gz rfl rfl
    have LA : Hz.ldg ⟨h.n, 0, 0⟩ (some 2) = some (entV 0 .nils) := (ld_two gz').1
    refine Wp.seq ?_
    refine Wp.region ?_
    refine Wo.val _ _ (by kernel_rfl) (en1 _) ?_
    refine Wo.pre 8 (by kernel_rfl) ?_
    refine Wo.nil ?_
    refine Wp.seq ?_
    refine Wp.region ?_
    refine Wo.pre 1 (by kernel_rfl) ?_
    refine Wo.call (by kernel_rfl) (by kernel_rfl) (c2) ?_
    refine Wo.pre 8 (by kernel_rfl) ?_
    refine Wo.nil ?_
    refine Wp.seq ?_
    refine Wp.region ?_
    refine Wo.pre 1 (by kernel_rfl) ?_
    refine Wo.call (by kernel_rfl) (by kernel_rfl) (c3) ?_
    refine Wo.pre 8 (by kernel_rfl) ?_
    refine Wo.nil ?_
    refine Wp.seq ?_
    refine Wp.seq ?_
    refine Wp.region ?_
    refine Wo.pre 8 (by kernel_rfl) ?_
    refine Wo.nil ?_
    refine Wp.cond true (by kernel_rfl) ?_
    refine Wp.seq ?_
    refine Wp.region ?_
    refine Wo.pre 1 (by kernel_rfl) ?_
    refine Wo.val .undef Hz (by kernel_rfl) (sz (by kernel_rfl) (by kernel_rfl)) ?_
    refine Wo.pre 8 (by kernel_rfl) ?_
    refine Wo.nil ?_
    exact Wp.ret ⟨.inr rfl, _, retI LA (by kernel_rfl) (by kernel_rfl), 0, .nils, [], 5, rfl, ⟨by rw [nz]; omega, fun b hb => by rw [kz b (by omega)]; rw [k3 b (by omega)]; exact X1.2 b hb⟩, OwnCh.none, rec_bad h8⟩

set_option maxHeartbeats 4000000 in
theorem rtakerec_run {h : H} {y : AV} {l : List UInt8} (hy : Bs h y l) (hok : Cok y) (hl : l.length ≤ maxRow) : ∃ r h', Runs TF 55 [y] h r h' ∧ ∃ t z ps E, r = .tup [entV t z, .int .i64 E] ∧ Ext h h' ∧ OwnCh h.n h' z ps ∧ recOf l = (t, says ps, E) := by
  refine Runs.ofP f55 rfl ?_
  have hmx : 200000000000000 = maxRow := rfl
  have o3 : ∀ k i, (AV.int k i).one = true := fun _ _ => rfl
  obtain ⟨H1, hH1⟩ : ∃ H1, H1 = h.new (.cells 0 70 [.int .u64 0, .nils] 0 false) := ⟨_, rfl⟩
  have X1 : Ext h H1 := by rw [hH1]; exact Ext.new _ _
  have n1 : h.n < H1.n := by rw [hH1]; simp
  have g1 : H1.get h.n = some (.cells 0 70 [.int .u64 0, .nils] 0 false) := by rw [hH1]; exact h.get_new _
  have en1 : ∀ ts, iop (.new 70 (.c (.agg [.int .u64 0, .nils]))) (ev ts) h = some (.val (.ptr ⟨h.n, 0, 0⟩) H1) := fun ts => by rw [hH1]; exact iop_new (by kernel_rfl) rfl
  have hy1 := hy.ext X1
  have m1 := X1.1
  by_cases h8 : 8 ≤ l.length
  · obtain ⟨y8, a1, a2, a3⟩ := hy1.take hok (n := 8) h8
    have ht8 : (l.take 8).length = 8 := by rw [List.length_take]; omega
    obtain ⟨H2, rb, u, c2, hrb, hR2, X2, hub⟩ := rrnew_run a2 (by omega)
    obtain ⟨H3, u3, c3, hR3, E3, s3⟩ := rrnum_any hR2 8 (by omega)
    obtain ⟨e1, e2, e3⟩ := rd8_good (l := l.take 8) (by omega)
    rw [e1, e2, List.take_take, Nat.min_self] at c3
    have m2 := X2.1
    have m3 := E3.1
    have X3 : Ext H1 H3 := ⟨by omega, fun b hb => by rw [E3.2 b (by omega) (by omega)]; exact X2.2 b hb⟩
    obtain ⟨yd, b1, b2, b3, _⟩ := (hy1.ext X3).drop hok (n := 8) h8
    have hd8 : (l.drop 8).length ≤ maxRow := by rw [List.length_drop]; omega
    obtain ⟨r4, H4, c4, z, ok, rfl, X4, hz⟩ := rcerts_run b2 hd8
    have m4 := X4.1
    have k4 : ∀ b, b < H1.n → H4.get b = H1.get b := fun b hb => by rw [X4.2 b (by omega)]; exact X3.2 b hb
    rcases hz with ⟨q1, rfl, rfl⟩ | ⟨ps, q1, rfl, q3⟩
    · obtain ⟨H5a, H5, X5, n5, g5, en5, st5, _, _⟩ := made2 (h := H4) 70 (z1 := .int .u64 0) (z2 := .nils) (x := .int .u64 (be (l.take 8) : Nat)) (y := .nils) rfl rfl rfl
      have m5 := X5.1
      have gz : H5.get h.n = some (.cells 0 70 [.int .u64 0, .nils] 0 false) := by rw [X5.2 _ (by omega), k4 _ n1]; exact g1
      obtain ⟨Hz, sz, gz', kz, nz⟩ := fill2 (x := .int .u64 0) (y := .nils) gz rfl rfl
      have LA : Hz.ldg ⟨h.n, 0, 0⟩ (some 2) = some (entV 0 .nils) := (ld_two gz').1
      refine Wp.seq ?_
      refine Wp.region ?_
      refine Wo.val _ _ (by kernel_rfl) (en1 _) ?_
      refine Wo.pre 1 (by kernel_rfl) ?_
      refine Wo.nil ?_
      refine Wp.seq ?_
      refine Wp.seq ?_
      refine Wp.region ?_
      refine Wo.pre 1 (by kernel_rfl) ?_
      refine Wo.val (.int .i64 l.length) H1 (by kernel_rfl) ((hy1.len (by kernel_rfl))) ?_
      refine Wo.val (.bool false) H1 (by kernel_rfl) (iop_cmp (op := .lss) (k := .i64) (a := l.length) (b := 8) false (by kernel_rfl) (by kernel_rfl) (by simp) (by simp [binInt]; omega)) ?_
      refine Wo.nil ?_
      refine Wp.cond false (by kernel_rfl) ?_
      refine Wp.skip ?_
      refine Wp.seq ?_
      refine Wp.region ?_
      refine Wo.pre 1 (by kernel_rfl) ?_
      refine Wo.val y8 H1 (by kernel_rfl) (a1 _ _ _ (by kernel_rfl) (by kernel_rfl)) ?_
      refine Wo.call (by kernel_rfl) (by kernel_rfl) (c2) ?_
      refine Wo.pre 1 (by kernel_rfl) ?_
      refine Wo.nil ?_
      refine Wp.seq ?_
      refine Wp.region ?_
      refine Wo.pre 1 (by kernel_rfl) ?_
      refine Wo.call (by kernel_rfl) (by kernel_rfl) (c3) ?_
      refine Wo.pre 1 (by kernel_rfl) ?_
      refine Wo.pre 1 (by kernel_rfl) ?_
      refine Wo.pre 1 (by kernel_rfl) ?_
      refine Wo.pre 1 (by kernel_rfl) ?_
      refine Wo.pre 1 (by kernel_rfl) ?_
      refine Wo.nil ?_
      refine Wp.seq ?_
      refine Wp.region ?_
      refine Wo.pre 1 (by kernel_rfl) ?_
      refine Wo.val yd H3 (by kernel_rfl) (b1 _ _ _ (by kernel_rfl) (by kernel_rfl)) ?_
      refine Wo.call (by kernel_rfl) (by kernel_rfl) (c4) ?_
      refine Wo.pre 1 (by kernel_rfl) ?_
      refine Wo.pre 1 (by kernel_rfl) ?_
      refine Wo.pre 1 (by kernel_rfl) ?_
      refine Wo.pre 1 (by kernel_rfl) ?_
      refine Wo.pre 1 (by kernel_rfl) ?_
      refine Wo.nil ?_
      refine Wp.seq ?_
      refine Wp.region ?_
      refine Wo.pre 1 (by kernel_rfl) ?_
      refine Wo.pre 1 (by kernel_rfl) ?_
      refine Wo.pre 1 (by kernel_rfl) ?_
      refine Wo.val _ _ (by kernel_rfl) (en5 (by kernel_rfl)) ?_
      refine Wo.val _ _ (by kernel_rfl) (st5 (by kernel_rfl) (by kernel_rfl)) ?_
      refine Wo.nil ?_
      refine Wp.seq ?_
      refine Wp.seq ?_
      refine Wp.region ?_
      refine Wo.pre 1 (by kernel_rfl) ?_
      refine Wo.pre 1 (by kernel_rfl) ?_
      refine Wo.pre 1 (by kernel_rfl) ?_
      refine Wo.pre 1 (by kernel_rfl) ?_
      refine Wo.pre 1 (by kernel_rfl) ?_
      refine Wo.pre 1 (by kernel_rfl) ?_
      refine Wo.pre 1 (by kernel_rfl) ?_
      refine Wo.nil ?_
      refine Wp.cond true (by kernel_rfl) ?_
      refine Wp.seq ?_
      refine Wp.region ?_
      refine Wo.pre 1 (by kernel_rfl) ?_
      refine Wo.val .undef Hz (by kernel_rfl) (sz (by kernel_rfl) (by kernel_rfl)) ?_
      refine Wo.pre 1 (by kernel_rfl) ?_
      refine Wo.nil ?_
      exact Wp.ret ⟨.inr rfl, _, retI LA (by kernel_rfl) (by kernel_rfl), 0, .nils, [], 5, rfl, ⟨by rw [nz]; omega, fun b hb => by rw [kz b (by omega)]; rw [X5.2 b (by omega), k4 b (by omega)]; exact X1.2 b hb⟩, OwnCh.none, rec_none h8 q1⟩
    · have pz := q3.ch.parts
      obtain ⟨H5a, H5, X5, n5, g5, en5, st5, _, _⟩ := made2 (h := H4) 70 (z1 := .int .u64 0) (z2 := .nils) (x := .int .u64 (be (l.take 8) : Nat)) (y := z) rfl rfl pz.2.1
      have m5 := X5.1
      have hfew : ps.length < 16777216 := by have := certR_few q1; rw [says_len] at this; exact this
      obtain ⟨r6, H6, c6, rfl, X6⟩ := rmay_run (q3.ch.ext X5) (by omega) (be (l.take 8))
      have m6 := X6.1
      have l5 := ld_two g5
      have l6 := ld_two ((X6.2 _ (by omega)).trans g5)
      have gz6 : H6.get h.n = some (.cells 0 70 [.int .u64 0, .nils] 0 false) := by rw [X6.2 _ (by omega), X5.2 _ (by omega), k4 _ n1]; exact g1
      by_cases hmay : mayE ps = true
      · rw [hmay] at c6
        obtain ⟨H7, s7, g7, k7, n7⟩ := fill2 (x := .int .u64 (be (l.take 8) : Nat)) (y := z) gz6 rfl pz.2.1
        have LA : H7.ldg ⟨h.n, 0, 0⟩ (some 2) = some (entV (be (l.take 8)) z) := (ld_two g7).1
        refine Wp.seq ?_
        refine Wp.region ?_
        refine Wo.val _ _ (by kernel_rfl) (en1 _) ?_
        refine Wo.pre 1 (by kernel_rfl) ?_
        refine Wo.nil ?_
        refine Wp.seq ?_
        refine Wp.seq ?_
        refine Wp.region ?_
        refine Wo.pre 1 (by kernel_rfl) ?_
        refine Wo.val (.int .i64 l.length) H1 (by kernel_rfl) ((hy1.len (by kernel_rfl))) ?_
        refine Wo.val (.bool false) H1 (by kernel_rfl) (iop_cmp (op := .lss) (k := .i64) (a := l.length) (b := 8) false (by kernel_rfl) (by kernel_rfl) (by simp) (by simp [binInt]; omega)) ?_
        refine Wo.nil ?_
        refine Wp.cond false (by kernel_rfl) ?_
        refine Wp.skip ?_
        refine Wp.seq ?_
        refine Wp.region ?_
        refine Wo.pre 1 (by kernel_rfl) ?_
        refine Wo.val y8 H1 (by kernel_rfl) (a1 _ _ _ (by kernel_rfl) (by kernel_rfl)) ?_
        refine Wo.call (by kernel_rfl) (by kernel_rfl) (c2) ?_
        refine Wo.pre 1 (by kernel_rfl) ?_
        refine Wo.nil ?_
        refine Wp.seq ?_
        refine Wp.region ?_
        refine Wo.pre 1 (by kernel_rfl) ?_
        refine Wo.call (by kernel_rfl) (by kernel_rfl) (c3) ?_
        refine Wo.pre 1 (by kernel_rfl) ?_
        refine Wo.pre 1 (by kernel_rfl) ?_
        refine Wo.pre 1 (by kernel_rfl) ?_
        refine Wo.pre 1 (by kernel_rfl) ?_
        refine Wo.pre 1 (by kernel_rfl) ?_
        refine Wo.nil ?_
        refine Wp.seq ?_
        refine Wp.region ?_
        refine Wo.pre 1 (by kernel_rfl) ?_
        refine Wo.val yd H3 (by kernel_rfl) (b1 _ _ _ (by kernel_rfl) (by kernel_rfl)) ?_
        refine Wo.call (by kernel_rfl) (by kernel_rfl) (c4) ?_
        refine Wo.pre 1 (by kernel_rfl) ?_
        refine Wo.pre 1 (by kernel_rfl) ?_
        refine Wo.pre 1 (by kernel_rfl) ?_
        refine Wo.pre 1 (by kernel_rfl) ?_
        refine Wo.pre 1 (by kernel_rfl) ?_
        refine Wo.nil ?_
        refine Wp.seq ?_
        refine Wp.region ?_
        refine Wo.pre 1 (by kernel_rfl) ?_
        refine Wo.pre 1 (by kernel_rfl) ?_
        refine Wo.val _ _ (by kernel_rfl) (iop_build2 (a := .int .u64 (be (l.take 8) : Nat)) (b := z) (by kernel_rfl) (by kernel_rfl) rfl pz.1) ?_
        refine Wo.val _ _ (by kernel_rfl) (en5 (by kernel_rfl)) ?_
        refine Wo.val _ _ (by kernel_rfl) (st5 (by kernel_rfl) (by kernel_rfl)) ?_
        refine Wo.nil ?_
        refine Wp.seq ?_
        refine Wp.seq ?_
        refine Wp.region ?_
        refine Wo.pre 1 (by kernel_rfl) ?_
        refine Wo.pre 1 (by kernel_rfl) ?_
        refine Wo.pre 1 (by kernel_rfl) ?_
        refine Wo.val (entV (be (l.take 8)) z) H5 (by kernel_rfl) (iop_ld (a := ⟨H4.n, 0, 0⟩) (by kernel_rfl) l5.1) ?_
        refine Wo.call (by kernel_rfl) (by kernel_rfl) (c6) ?_
        refine Wo.pre 1 (by kernel_rfl) ?_
        refine Wo.pre 1 (by kernel_rfl) ?_
        refine Wo.nil ?_
        refine Wp.cond false (by kernel_rfl) ?_
        refine Wp.skip ?_
        refine Wp.seq ?_
        refine Wp.region ?_
        refine Wo.val (entV (be (l.take 8)) z) H6 (by kernel_rfl) (iop_ld (a := ⟨H4.n, 0, 0⟩) (by kernel_rfl) l6.1) ?_
        refine Wo.val .undef H7 (by kernel_rfl) (s7 (by kernel_rfl) (by kernel_rfl)) ?_
        refine Wo.pre 1 (by kernel_rfl) ?_
        refine Wo.nil ?_
        exact Wp.ret ⟨.inr rfl, _, retI LA (by kernel_rfl) (by kernel_rfl), be (l.take 8), z, ps, 0, rfl, ⟨by rw [n7]; omega, fun b hb => by rw [k7 b (by omega), X6.2 b (by omega), X5.2 b (by omega), k4 b (by omega)]; exact X1.2 b hb⟩, (((q3.ext X5).ext X6).keepB (rb := h.n) (by omega) ⟨by omega, fun k _ hk => k7 k hk⟩).mono (by omega), rec_may h8 q1 (by rw [← may_says]; exact hmay)⟩
      · have hmay' : mayE ps = false := by simpa using hmay
        rw [hmay'] at c6
        have gz : H6.get h.n = some (.cells 0 70 [.int .u64 0, .nils] 0 false) := gz6
        obtain ⟨Hz, sz, gz', kz, nz⟩ := fill2 (x := .int .u64 0) (y := .nils) gz rfl rfl
        have LA : Hz.ldg ⟨h.n, 0, 0⟩ (some 2) = some (entV 0 .nils) := (ld_two gz').1
        refine Wp.seq ?_
        refine Wp.region ?_
        refine Wo.val _ _ (by kernel_rfl) (en1 _) ?_
        refine Wo.pre 1 (by kernel_rfl) ?_
        refine Wo.nil ?_
        refine Wp.seq ?_
        refine Wp.seq ?_
        refine Wp.region ?_
        refine Wo.pre 1 (by kernel_rfl) ?_
        refine Wo.val (.int .i64 l.length) H1 (by kernel_rfl) ((hy1.len (by kernel_rfl))) ?_
        refine Wo.val (.bool false) H1 (by kernel_rfl) (iop_cmp (op := .lss) (k := .i64) (a := l.length) (b := 8) false (by kernel_rfl) (by kernel_rfl) (by simp) (by simp [binInt]; omega)) ?_
        refine Wo.nil ?_
        refine Wp.cond false (by kernel_rfl) ?_
        refine Wp.skip ?_
        refine Wp.seq ?_
        refine Wp.region ?_
        refine Wo.pre 1 (by kernel_rfl) ?_
        refine Wo.val y8 H1 (by kernel_rfl) (a1 _ _ _ (by kernel_rfl) (by kernel_rfl)) ?_
        refine Wo.call (by kernel_rfl) (by kernel_rfl) (c2) ?_
        refine Wo.pre 1 (by kernel_rfl) ?_
        refine Wo.nil ?_
        refine Wp.seq ?_
        refine Wp.region ?_
        refine Wo.pre 1 (by kernel_rfl) ?_
        refine Wo.call (by kernel_rfl) (by kernel_rfl) (c3) ?_
        refine Wo.pre 1 (by kernel_rfl) ?_
        refine Wo.pre 1 (by kernel_rfl) ?_
        refine Wo.pre 1 (by kernel_rfl) ?_
        refine Wo.pre 1 (by kernel_rfl) ?_
        refine Wo.pre 1 (by kernel_rfl) ?_
        refine Wo.nil ?_
        refine Wp.seq ?_
        refine Wp.region ?_
        refine Wo.pre 1 (by kernel_rfl) ?_
        refine Wo.val yd H3 (by kernel_rfl) (b1 _ _ _ (by kernel_rfl) (by kernel_rfl)) ?_
        refine Wo.call (by kernel_rfl) (by kernel_rfl) (c4) ?_
        refine Wo.pre 1 (by kernel_rfl) ?_
        refine Wo.pre 1 (by kernel_rfl) ?_
        refine Wo.pre 1 (by kernel_rfl) ?_
        refine Wo.pre 1 (by kernel_rfl) ?_
        refine Wo.pre 1 (by kernel_rfl) ?_
        refine Wo.nil ?_
        refine Wp.seq ?_
        refine Wp.region ?_
        refine Wo.pre 1 (by kernel_rfl) ?_
        refine Wo.pre 1 (by kernel_rfl) ?_
        refine Wo.val _ _ (by kernel_rfl) (iop_build2 (a := .int .u64 (be (l.take 8) : Nat)) (b := z) (by kernel_rfl) (by kernel_rfl) rfl pz.1) ?_
        refine Wo.val _ _ (by kernel_rfl) (en5 (by kernel_rfl)) ?_
        refine Wo.val _ _ (by kernel_rfl) (st5 (by kernel_rfl) (by kernel_rfl)) ?_
        refine Wo.nil ?_
        refine Wp.seq ?_
        refine Wp.seq ?_
        refine Wp.region ?_
        refine Wo.pre 1 (by kernel_rfl) ?_
        refine Wo.pre 1 (by kernel_rfl) ?_
        refine Wo.pre 1 (by kernel_rfl) ?_
        refine Wo.val (entV (be (l.take 8)) z) H5 (by kernel_rfl) (iop_ld (a := ⟨H4.n, 0, 0⟩) (by kernel_rfl) l5.1) ?_
        refine Wo.call (by kernel_rfl) (by kernel_rfl) (c6) ?_
        refine Wo.pre 1 (by kernel_rfl) ?_
        refine Wo.pre 1 (by kernel_rfl) ?_
        refine Wo.nil ?_
        refine Wp.cond true (by kernel_rfl) ?_
        refine Wp.seq ?_
        refine Wp.region ?_
        refine Wo.pre 1 (by kernel_rfl) ?_
        refine Wo.val .undef Hz (by kernel_rfl) (sz (by kernel_rfl) (by kernel_rfl)) ?_
        refine Wo.pre 1 (by kernel_rfl) ?_
        refine Wo.nil ?_
        exact Wp.ret ⟨.inr rfl, _, retI LA (by kernel_rfl) (by kernel_rfl), 0, .nils, [], 5, rfl, ⟨by rw [nz]; omega, fun b hb => by rw [kz b (by omega)]; rw [X6.2 b (by omega), X5.2 b (by omega), k4 b (by omega)]; exact X1.2 b hb⟩, OwnCh.none, rec_not h8 q1 (by rw [← may_says]; exact hmay)⟩
  · skip
    have gz : H1.get h.n = some (.cells 0 70 [.int .u64 0, .nils] 0 false) := g1
    obtain ⟨Hz, sz, gz', kz, nz⟩ := fill2 (x := .int .u64 0) (y := .nils) gz rfl rfl
    have LA : Hz.ldg ⟨h.n, 0, 0⟩ (some 2) = some (entV 0 .nils) := (ld_two gz').1
    refine Wp.seq ?_
    refine Wp.region ?_
    refine Wo.val _ _ (by kernel_rfl) (en1 _) ?_
    refine Wo.pre 1 (by kernel_rfl) ?_
    refine Wo.nil ?_
    refine Wp.seq ?_
    refine Wp.seq ?_
    refine Wp.region ?_
    refine Wo.pre 1 (by kernel_rfl) ?_
    refine Wo.val (.int .i64 l.length) H1 (by kernel_rfl) ((hy1.len (by kernel_rfl))) ?_
    refine Wo.val (.bool true) H1 (by kernel_rfl) (iop_cmp (op := .lss) (k := .i64) (a := l.length) (b := 8) true (by kernel_rfl) (by kernel_rfl) (by simp) (by simp [binInt]; omega)) ?_
    refine Wo.nil ?_
    refine Wp.cond true (by kernel_rfl) ?_
    refine Wp.seq ?_
    refine Wp.region ?_
    refine Wo.pre 1 (by kernel_rfl) ?_
    refine Wo.val .undef Hz (by kernel_rfl) (sz (by kernel_rfl) (by kernel_rfl)) ?_
    refine Wo.pre 1 (by kernel_rfl) ?_
    refine Wo.nil ?_
    exact Wp.ret ⟨.inr rfl, _, retI LA (by kernel_rfl) (by kernel_rfl), 0, .nils, [], 5, rfl, ⟨by rw [nz]; omega, fun b hb => by rw [kz b (by omega)]; exact X1.2 b hb⟩, OwnCh.none, rec_bad h8⟩
end Go.Det

/- Items read: the plain law; chains that are appended to. -/
set_option linter.unusedVariables false
set_option linter.unusedSimpArgs false
namespace Go.Det
open Go.Proofs

/-- An item's entry. -/
def itemC (lf : List UInt8) : List UInt8 := (lf.take (lf.length - 2)).drop 15
def itemT (lf : List UInt8) : Nat := be ((lf.take 10).drop 2)
def itemOf (lf ex : List UInt8) : Nat × List (List UInt8) × Int :=
  match (if 17 ≤ lf.length then certR ex else none) with
  | some l => if mayS (itemC lf :: l) = true ∧ leafB (itemT lf) (itemC lf) = lf then (itemT lf, itemC lf :: l, 0) else (0, [], 5)
  | none => (0, [], 5)
/-! Chains that are appended to. -/

def RowK (lo : Nat) (h : H) (v : AV) (cs : List AV) : Prop := (v = .nils ∧ cs = []) ∨ ∃ b g c, lo ≤ b ∧ b < h.n ∧ h.get b = some (.cells g 22 cs 0 false) ∧ v = .sl ⟨b, g, 0⟩ cs.length c ∧ (c = .op 1 ∨ c = .ex cs.length)

theorem Ch.src {h : H} {v : AV} {ys : List (AV × List UInt8)} (c : Ch h v ys) : srcCells h 1 v = some ((ys.map (·.1)).length, ys.map (·.1)) := by
  rcases c.row with ⟨rfl, rfl⟩ | ⟨a, q, rfl, _, h3⟩
  · rfl
  · simp only [srcCells, Nat.mul_one, h3, Option.map_some, List.length_map]

theorem RowK.app {lo : Nat} {h : H} {v w : AV} {cs new : List AV} (o : RowK lo h v cs) (hlo : lo ≤ h.n) (hs : srcCells h 1 w = some (new.length, new)) (h1 : new.all AV.one = true) (hn : cs.length + new.length < 33554432) :
    ∃ v' h', append h 22 1 24 v w = some (.val v' h') ∧ RowK lo h' v' (cs ++ new) ∧ h.n ≤ h'.n ∧ ∀ b, b < h.n → (b < lo ∨ ∀ g c, h.get b ≠ some (.cells g 22 c 0 false)) → h'.get b = h.get b := by
  have hmx : 200000000000000 = maxRow := rfl
  unfold append
  simp only [hs]
  by_cases h0 : new = []
  · subst h0
    rcases o with ⟨rfl, rfl⟩ | ⟨b, g, c, q1, q2, q3, rfl, q4⟩
    · exact ⟨.nils, h, rfl, .inl ⟨rfl, rfl⟩, Nat.le_refl _, fun _ _ _ => rfl⟩
    · exact ⟨_, h, rfl, by rw [List.append_nil]; exact .inr ⟨b, g, c, q1, q2, q3, rfl, q4⟩, Nat.le_refl _, fun _ _ _ => rfl⟩
  · have hpos : 0 < new.length := List.length_pos_iff.2 h0
    have hne : (new.length == 0) = false := by simp [h0]
    have fit : fits (cs.length + new.length) 24 = true := by simp only [fits, Bool.and_eq_true, decide_eq_true_eq]; omega
    have hle : cs.length + new.length ≤ 9223372036854775807 := by omega
    rcases o with ⟨rfl, rfl⟩ | ⟨b, g, c, q1, q2, q3, rfl, q4⟩
    · simp only [List.length_nil, Nat.zero_add] at fit hle
      refine ⟨.sl ⟨h.n, 0, 0⟩ new.length (.op 1), h.new (.cells 0 22 new 0 false), ?_, .inr ⟨h.n, 0, .op 1, hlo, by simp, h.get_new _, rfl, .inl rfl⟩, by simp, fun b hb _ => h.get_new_ne b _ (by omega)⟩
      simp [hne, fit, hle, h1, h0]
    · rcases q4 with rfl | rfl
      · refine ⟨.sl ⟨b, g + 1, 0⟩ (cs.length + new.length) (.op 1), h.set b (.cells (g + 1) 22 (cs ++ new) 0 false), ?_, .inr ⟨b, g + 1, .op 1, q1, q2, h.get_set b _, by rw [List.length_append], .inl rfl⟩, Nat.le_refl _, fun b' hb' hk => ?_⟩
        · simp [hne, fit, hle, h1, h0, q3]
        · have : b' ≠ b := by
            rintro rfl
            rcases hk with hk | hk
            · omega
            · exact hk _ _ q3
          exact h.get_set_ne b b' _ this
      · have hld : h.ldn ⟨b, g, 0⟩ (cs.length * 1) = some cs := by
          unfold H.ldn H.row
          simp only [q3, BEq.rfl, Bool.not_false, Bool.true_or, Bool.and_self, if_true, Nat.mul_one]
          exact cut_all _
        refine ⟨.sl ⟨h.n, 0, 0⟩ (cs.length + new.length) (.op 1), h.new (.cells 0 22 (cs ++ new) 0 false), ?_, .inr ⟨h.n, 0, .op 1, hlo, by simp, h.get_new _, by rw [List.length_append], .inl rfl⟩, by simp, fun b hb _ => h.get_new_ne b _ (by omega)⟩
        rw [Nat.mul_one] at hld
        simp [hne, fit, hle, h1, h0, hld, hpos]

theorem RowK.ch {lo : Nat} {h : H} {v : AV} {ys : List (AV × List UInt8)} (o : RowK lo h v (ys.map (·.1))) (el : ∀ p ∈ ys, Bs h p.1 p.2 ∧ Cok p.1) : Ch h v ys := by
  refine ⟨?_, el, ?_⟩
  · rcases o with ⟨h1, h2⟩ | ⟨b, g, c, h1, h2, h3, h4, h5⟩
    · exact .inl ⟨h1, by simpa using h2⟩
    · refine .inr ⟨⟨b, g, 0⟩, c, by rw [h4, List.length_map], h2, ?_⟩
      unfold H.ldn H.row
      simp only [h3, BEq.rfl, Bool.not_false, Bool.true_or, Bool.and_self, if_true]
      have : ys.length = (ys.map (·.1)).length := by simp
      rw [this]
      exact cut_all _
  · rintro a m c e
    rcases o with ⟨h1, _⟩ | ⟨b, g, q, _, _, _, h4, h5⟩
    · rw [h1] at e; simp at e
    · rw [h4] at e; simp only [AV.sl.injEq] at e
      obtain ⟨_, rfl, rfl⟩ := e
      rcases h5 with h5 | h5
      · exact .inr h5
      · exact .inl ⟨_, h5, by simp⟩
theorem RowK.ext {lo : Nat} {h h' : H} {v : AV} {cs : List AV} (o : RowK lo h v cs) (hx : Ext h h') : RowK lo h' v cs := by
  refine o.imp id ?_
  rintro ⟨b, g, c, h1, h2, h3, h4⟩
  have := hx.1
  exact ⟨b, g, c, h1, by omega, by rw [hx.2 b h2]; exact h3, h4⟩
theorem RowK.keepB {lo rb : Nat} {h h' : H} {v : AV} {cs : List AV} (hlo : rb < lo) (x : ExtB rb h h') (o : RowK lo h v cs) : RowK lo h' v cs := by
  refine o.imp id ?_
  rintro ⟨b, g, c, h1, h2, h3, h4⟩
  have := x.1
  exact ⟨b, g, c, h1, by omega, by rw [x.2 b h2 (by omega)]; exact h3, h4⟩
theorem RowK.mono {lo lo' : Nat} {h : H} {v : AV} {cs : List AV} (o : RowK lo h v cs) (hl : lo' ≤ lo) : RowK lo' h v cs := by
  refine o.imp id ?_
  rintro ⟨b, g, c, h1, h2⟩
  exact ⟨b, g, c, by omega, h2⟩
theorem OwnCh.rowK {lo : Nat} {h : H} {v : AV} {ys : List (AV × List UInt8)} (o : OwnCh lo h v ys) : RowK lo h v (ys.map (·.1)) := by
  rcases o.row with ⟨h1, h2, _⟩ | ⟨b, g, h1, h2, h3, h4, _⟩
  · exact .inl ⟨h1, h2⟩
  · exact .inr ⟨b, g, .op 1, h1, h2, h3, by rw [h4, List.length_map], .inl rfl⟩

/-- A chain of its own, however its row came to be. -/
structure OwnK (lo : Nat) (h : H) (v : AV) (ys : List (AV × List UInt8)) : Prop where
  row : RowK lo h v (ys.map (·.1))
  el : ∀ p ∈ ys, Ow lo h p.1 p.2
theorem OwnCh.k {lo : Nat} {h : H} {v : AV} {ys : List (AV × List UInt8)} (o : OwnCh lo h v ys) : OwnK lo h v ys := ⟨o.rowK, o.el⟩
theorem OwnK.ch {lo : Nat} {h : H} {v : AV} {ys : List (AV × List UInt8)} (o : OwnK lo h v ys) : Ch h v ys := o.row.ch fun p hp => ⟨(o.el p hp).bs, (o.el p hp).cok⟩
theorem OwnK.ext {lo : Nat} {h h' : H} {v : AV} {ys : List (AV × List UInt8)} (o : OwnK lo h v ys) (hx : Ext h h') : OwnK lo h' v ys := ⟨o.row.ext hx, fun p hp => (o.el p hp).ext hx⟩
theorem OwnK.keepB {lo rb : Nat} {h h' : H} {v : AV} {ys : List (AV × List UInt8)} (hlo : rb < lo) (x : ExtB rb h h') (o : OwnK lo h v ys) : OwnK lo h' v ys :=
  ⟨o.row.keepB hlo x, fun p hp => (o.el p hp).keep x.1 (fun b g c h1 h2 _ => x.2 b h2 (by omega))⟩
theorem OwnK.mono {lo lo' : Nat} {h : H} {v : AV} {ys : List (AV × List UInt8)} (o : OwnK lo h v ys) (hl : lo' ≤ lo) : OwnK lo' h v ys := ⟨o.row.mono hl, fun p hp => (o.el p hp).mono hl⟩
theorem OwnK.none {lo : Nat} {h : H} : OwnK lo h .nils [] := OwnCh.none.k
end Go.Det

/- Frames: entries' rows, readers. -/
set_option linter.unusedVariables false
set_option linter.unusedSimpArgs false
set_option linter.unusedSectionVars false
namespace Go.Det
open Go.Proofs

theorem ExtB.fr {b : Nat} {h h' : H} (x : ExtB b h h') : Fr (fun s => s = b + 1) h h' := ⟨x.1, fun k hk hs => x.2 k hk (fun e => hs (by rw [e]))⟩
theorem Ch.fr {h h' : H} {v : AV} {xs : List (AV × List UInt8)} (c : Ch h v xs) {S : Nat → Prop} (x : Fr S h h') (hs : ∀ s, S s → s = 0 ∨ h.n < s) : Ch h' v xs := c.ext (x.ext hs)
theorem Ch.bd {h : H} {v : AV} {xs : List (AV × List UInt8)} (c : Ch h v xs) : blk v ≤ h.n := by
  rcases c.row with ⟨rfl, _⟩ | ⟨a, q, rfl, h2, _⟩
  · exact Nat.zero_le _
  · exact h2
theorem OwnCh.parts {lo : Nat} {h : H} {v : AV} {xs : List (AV × List UInt8)} (c : OwnCh lo h v xs) : v.cells = [v] ∧ v.one = true ∧ isStrV v = false := c.ch.parts
theorem OwnK.parts {lo : Nat} {h : H} {v : AV} {xs : List (AV × List UInt8)} (c : OwnK lo h v xs) : v.cells = [v] ∧ v.one = true ∧ isStrV v = false := c.ch.parts
theorem OwnCh.bd {lo : Nat} {h : H} {v : AV} {xs : List (AV × List UInt8)} (c : OwnCh lo h v xs) : (blk v = 0 ∨ lo < blk v) ∧ blk v ≤ h.n := by
  rcases c.row with ⟨rfl, _⟩ | ⟨b, g, h1, h2, _, rfl, _⟩
  · exact ⟨.inl rfl, Nat.zero_le _⟩
  · exact ⟨.inr (Nat.succ_le_succ h1), h2⟩
theorem OwnK.bd {lo : Nat} {h : H} {v : AV} {xs : List (AV × List UInt8)} (c : OwnK lo h v xs) : (blk v = 0 ∨ lo < blk v) ∧ blk v ≤ h.n := by
  rcases c.row with ⟨rfl, _⟩ | ⟨b, g, _, h1, h2, _, rfl, _⟩
  · exact ⟨.inl rfl, Nat.zero_le _⟩
  · exact ⟨.inr (Nat.succ_le_succ h1), h2⟩
theorem RowK.fr {lo : Nat} {h h' : H} {v : AV} {cs : List AV} (o : RowK lo h v cs) {S : Nat → Prop} (x : Fr S h h') (hs : ∀ s, S s → s ≤ lo ∨ h.n < s) : RowK lo h' v cs := by
  refine o.imp id ?_
  rintro ⟨b, g, c, h1, h2, h3, h4⟩
  have := x.1
  exact ⟨b, g, c, h1, by omega, by rw [x.2 b h2 (fun e => by have := hs _ e; omega)]; exact h3, h4⟩
theorem Ow.fr2 {lo : Nat} {h h' : H} {v : AV} {l : List UInt8} (ho : Ow lo h v l) {S : Nat → Prop} (x : Fr S h h') (hs : ∀ s, S s → s ≤ lo ∨ h.n < s) : Ow lo h' v l := by
  have := x.1
  rcases ho with ⟨rfl, rfl⟩ | ⟨b, g, h1, h2, h3, h4⟩
  · exact .inl ⟨rfl, rfl⟩
  · exact .inr ⟨b, g, h1, by omega, by rw [x.2 b h2 (fun e => by have := hs _ e; omega)]; exact h3, h4⟩
theorem OwnK.fr {lo : Nat} {h h' : H} {v : AV} {ys : List (AV × List UInt8)} (o : OwnK lo h v ys) {S : Nat → Prop} (x : Fr S h h') (hs : ∀ s, S s → s ≤ lo ∨ h.n < s) : OwnK lo h' v ys := ⟨o.row.fr x hs, fun p hp => (o.el p hp).fr2 x hs⟩
theorem OwnCh.fr {lo : Nat} {h h' : H} {v : AV} {ys : List (AV × List UInt8)} (o : OwnCh lo h v ys) {S : Nat → Prop} (x : Fr S h h') (hs : ∀ s, S s → s ≤ lo ∨ h.n < s) : OwnCh lo h' v ys := by
  refine ⟨?_, fun p hp => (o.el p hp).fr2 x hs⟩
  have hx := x.1
  exact o.row.ext hx (fun b g c h1 h2 _ => x.2 b h2 (fun e => by have := hs _ e; omega))

theorem Rd.bs {h : H} {b : Nat} {v : AV} {l : List UInt8} (r : Rd h b v l) : Bs h v l := r.2.2.1
theorem Rd.ne {h : H} {b : Nat} {v : AV} {l : List UInt8} (r : Rd h b v l) : blk v ≠ b + 1 := by
  have := r.2.2.2
  cases v <;> try (simp [blk]; done)
  · rename_i a n c
    have := (this a n c rfl).1
    simp only [blk]; omega
theorem Rd.bd {h : H} {b : Nat} {v : AV} {l : List UInt8} (r : Rd h b v l) : b < h.n ∧ blk v ≤ h.n ∧ blk v ≠ b + 1 := ⟨r.1, r.bs.bd, r.ne⟩
theorem Rd.fr {h h' : H} {b : Nat} {v : AV} {l : List UInt8} (r : Rd h b v l) {S : Nat → Prop} (x : Fr S h h') (hs : ∀ s, S s → s ≠ b + 1 ∧ (s ≠ blk v ∨ s = 0)) : Rd h' b v l :=
  r.keep x.1 (x.2 b r.1 (fun e => (hs _ e).1 rfl)) (fun a n c e => x.2 a.b (r.bs.lt e) (fun h1 => by have := hs _ h1; rw [e] at this; simp only [blk] at this; omega))
theorem RRd.bs {h : H} {b : Nat} {v : AV} {l : List UInt8} (r : RRd h b v l) : Bs h v l := r.2.2.1
theorem RRd.ne {h : H} {b : Nat} {v : AV} {l : List UInt8} (r : RRd h b v l) : blk v ≠ b + 1 := by
  have := r.2.2.2.2
  cases v <;> try (simp [blk]; done)
  · rename_i a n c
    have := this a n c rfl
    simp only [blk]; omega
theorem RRd.bd {h : H} {b : Nat} {v : AV} {l : List UInt8} (r : RRd h b v l) : b < h.n ∧ blk v ≤ h.n ∧ blk v ≠ b + 1 := ⟨r.1, r.bs.bd, r.ne⟩
theorem RRd.fr {h h' : H} {b : Nat} {v : AV} {l : List UInt8} (r : RRd h b v l) {S : Nat → Prop} (x : Fr S h h') (hs : ∀ s, S s → s ≠ b + 1 ∧ (s ≠ blk v ∨ s = 0)) : RRd h' b v l :=
  r.keep x.1 (x.2 b r.1 (fun e => (hs _ e).1 rfl)) (fun a n c e => x.2 a.b (r.bs.lt e) (fun h1 => by have := hs _ h1; rw [e] at this; simp only [blk] at this; omega))
theorem SB.blk {v v' : AV} (s : SB v v') : Go.Det.blk v' = 0 ∨ Go.Det.blk v' = Go.Det.blk v := by
  cases v' <;> try (exact .inl rfl)
  rename_i a n c
  obtain ⟨a0, n0, c0, rfl, e⟩ := s a n c rfl
  exact .inr (by simp [Go.Det.blk, e])
theorem Ch.none {h : H} : Ch h .nils [] := (OwnK.none (lo := 0)).ch

/-- A row of its own, appended to: only its block changes. -/
theorem RowK.appF {lo : Nat} {h : H} {v w : AV} {cs new : List AV} (o : RowK lo h v cs) (hlo : lo ≤ h.n) (hs : srcCells h 1 w = some (new.length, new)) (h1 : new.all AV.one = true) (hn : cs.length + new.length < 33554432) :
    ∃ v' h', append h 22 1 24 v w = some (.val v' h') ∧ RowK lo h' v' (cs ++ new) ∧ Fr (fun s => s = blk v) h h' := by
  have hmx : 200000000000000 = maxRow := rfl
  unfold append
  simp only [hs]
  by_cases h0 : new = []
  · subst h0
    rcases o with ⟨rfl, rfl⟩ | ⟨b, g, c, q1, q2, q3, rfl, q4⟩
    · exact ⟨.nils, h, rfl, .inl ⟨rfl, rfl⟩, Nat.le_refl _, fun _ _ _ => rfl⟩
    · exact ⟨_, h, rfl, by rw [List.append_nil]; exact .inr ⟨b, g, c, q1, q2, q3, rfl, q4⟩, Nat.le_refl _, fun _ _ _ => rfl⟩
  · have hpos : 0 < new.length := List.length_pos_iff.2 h0
    have hne : (new.length == 0) = false := by simp [h0]
    have fit : fits (cs.length + new.length) 24 = true := by simp only [fits, Bool.and_eq_true, decide_eq_true_eq]; omega
    have hle : cs.length + new.length ≤ 9223372036854775807 := by omega
    rcases o with ⟨rfl, rfl⟩ | ⟨b, g, c, q1, q2, q3, rfl, q4⟩
    · simp only [List.length_nil, Nat.zero_add] at fit hle
      refine ⟨.sl ⟨h.n, 0, 0⟩ new.length (.op 1), h.new (.cells 0 22 new 0 false), ?_, .inr ⟨h.n, 0, .op 1, hlo, by simp, h.get_new _, rfl, .inl rfl⟩, by simp, fun b hb _ => h.get_new_ne b _ (by omega)⟩
      simp [hne, fit, hle, h1, h0]
    · rcases q4 with rfl | rfl
      · refine ⟨.sl ⟨b, g + 1, 0⟩ (cs.length + new.length) (.op 1), h.set b (.cells (g + 1) 22 (cs ++ new) 0 false), ?_, .inr ⟨b, g + 1, .op 1, q1, q2, h.get_set b _, by rw [List.length_append], .inl rfl⟩, Nat.le_refl _, fun b' hb' hk => ?_⟩
        · simp [hne, fit, hle, h1, h0, q3]
        · have : b' ≠ b := by
            rintro rfl
            exact hk rfl
          exact h.get_set_ne b b' _ this
      · have hld : h.ldn ⟨b, g, 0⟩ (cs.length * 1) = some cs := by
          unfold H.ldn H.row
          simp only [q3, BEq.rfl, Bool.not_false, Bool.true_or, Bool.and_self, if_true, Nat.mul_one]
          exact cut_all _
        refine ⟨.sl ⟨h.n, 0, 0⟩ (cs.length + new.length) (.op 1), h.new (.cells 0 22 (cs ++ new) 0 false), ?_, .inr ⟨h.n, 0, .op 1, hlo, by simp, h.get_new _, by rw [List.length_append], .inl rfl⟩, by simp, fun b hb _ => h.get_new_ne b _ (by omega)⟩
        rw [Nat.mul_one] at hld
        simp [hne, fit, hle, h1, h0, hld, hpos]
theorem RowK.bd {lo : Nat} {h : H} {v : AV} {cs : List AV} (o : RowK lo h v cs) : (blk v = 0 ∨ lo < blk v) ∧ blk v ≤ h.n := by
  rcases o with ⟨rfl, _⟩ | ⟨b, g, _, h1, h2, _, rfl, _⟩
  · exact ⟨.inl rfl, Nat.zero_le _⟩
  · exact ⟨.inr (Nat.succ_le_succ h1), h2⟩

/-- A chain whose row is its own, its rows of bytes as they read. -/
structure OwB (lo : Nat) (h : H) (v : AV) (ys : List (AV × List UInt8)) : Prop where
  row : RowK lo h v (ys.map (·.1))
  el : ∀ p ∈ ys, Bs h p.1 p.2 ∧ Cok p.1
theorem OwB.ch {lo : Nat} {h : H} {v : AV} {ys : List (AV × List UInt8)} (o : OwB lo h v ys) : Ch h v ys := o.row.ch o.el
theorem OwB.parts {lo : Nat} {h : H} {v : AV} {xs : List (AV × List UInt8)} (c : OwB lo h v xs) : v.cells = [v] ∧ v.one = true ∧ isStrV v = false := c.ch.parts
theorem OwB.bd {lo : Nat} {h : H} {v : AV} {xs : List (AV × List UInt8)} (c : OwB lo h v xs) : (blk v = 0 ∨ lo < blk v) ∧ blk v ≤ h.n := c.row.bd
theorem OwB.fr {lo : Nat} {h h' : H} {v : AV} {ys : List (AV × List UInt8)} (o : OwB lo h v ys) {S : Nat → Prop} (x : Fr S h h') (hs : ∀ s, S s → s = 0 ∨ h.n < s) : OwB lo h' v ys :=
  ⟨o.row.fr x (fun s h1 => (hs s h1).imp (fun e => by omega) id), fun p hp => ⟨(o.el p hp).1.ext (x.ext hs), (o.el p hp).2⟩⟩
theorem OwB.none {lo : Nat} {h : H} : OwB lo h .nils [] := ⟨.inl ⟨rfl, rfl⟩, fun p hp => by simp at hp⟩
theorem OwnK.b {lo : Nat} {h : H} {v : AV} {ys : List (AV × List UInt8)} (o : OwnK lo h v ys) : OwB lo h v ys := ⟨o.row, fun p hp => ⟨(o.el p hp).bs, (o.el p hp).cok⟩⟩
theorem Ch.bq {h : H} {v : AV} {xs : List (AV × List UInt8)} (c : Ch h v xs) : blk v ≤ h.n := c.bd
theorem OwnCh.bq {lo : Nat} {h : H} {v : AV} {xs : List (AV × List UInt8)} (c : OwnCh lo h v xs) : Dj (blk v = 0 ∨ lo < blk v) ∧ blk v ≤ h.n := c.bd
theorem OwnK.bq {lo : Nat} {h : H} {v : AV} {xs : List (AV × List UInt8)} (c : OwnK lo h v xs) : Dj (blk v = 0 ∨ lo < blk v) ∧ blk v ≤ h.n := c.bd
theorem OwB.bq {lo : Nat} {h : H} {v : AV} {xs : List (AV × List UInt8)} (c : OwB lo h v xs) : Dj (blk v = 0 ∨ lo < blk v) ∧ blk v ≤ h.n := c.bd
theorem RowK.bq {lo : Nat} {h : H} {v : AV} {xs : List AV} (c : RowK lo h v xs) : Dj (blk v = 0 ∨ lo < blk v) ∧ blk v ≤ h.n := c.bd
theorem Rd.bq {h : H} {b : Nat} {v : AV} {l : List UInt8} (r : Rd h b v l) : Dj (blk v ≠ b + 1) ∧ b < h.n ∧ blk v ≤ h.n := ⟨r.ne, r.1, r.bs.bd⟩
theorem RRd.bq {h : H} {b : Nat} {v : AV} {l : List UInt8} (r : RRd h b v l) : Dj (blk v ≠ b + 1) ∧ b < h.n ∧ blk v ≤ h.n := ⟨r.ne, r.1, r.bs.bd⟩
theorem SB.bq {v v' : AV} (s : SB v v') : Dj (Go.Det.blk v' = 0 ∨ Go.Det.blk v' = Go.Det.blk v) := s.blk
end Go.Det

/- Items read: the walks. -/
set_option linter.unusedVariables false
set_option linter.unusedSimpArgs false
set_option linter.unusedSectionVars false
namespace Go.Det
open Go.Proofs
attribute [local irreducible] Wp Wo Wd iop ev slots quiets wanted put

theorem leafE_zero {xs : List (AV × List UInt8)} (h : leafE xs = 0) : mayE xs = true := by
  unfold leafE at h
  by_cases hm : mayE xs = true
  · exact hm
  · rw [if_neg hm] at h; cases h
end Go.Det

/- Rows are spoiled: within a range of blocks. -/
set_option linter.unusedVariables false
set_option linter.unusedSimpArgs false
set_option linter.unusedSectionVars false
namespace Go.Det
open Go.Proofs
attribute [local irreducible] Wp Wo Wd iop ev slots quiets wanted put

/-- Rows of bytes between lo and hi may be other bytes; all else stands. -/
def SpoiltI (lo hi : Nat) (h h' : H) : Prop := h'.n = h.n ∧ ∀ b, (b < lo ∨ hi ≤ b ∨ ∀ g c, h.get b ≠ some (.cells g 5 c 0 false)) → h'.get b = h.get b

theorem spoilI_step {h0 h : H} {lo hi : Nat} {rs : List (AV × List UInt8)} {p : AV × List UInt8} {l' : List UInt8} (hS : SpoiltI lo hi h0 h) (hr : ∀ p ∈ rs, ∃ l', l'.length = p.2.length ∧ Ow lo h p.1 l') (hl : l'.length = p.2.length) (hbk : Go.Det.blk p.1 ≤ hi) (ho : Ow lo h p.1 l') :
    ∃ blk g, (l'.length = 0 ∨ ((∃ cc, p.1 = .sl ⟨blk, g, 0⟩ l'.length cc) ∧ ∃ r : List UInt8, r.length = l'.length ∧ h.get blk = some (.cells g 5 (bytesAV r) 0 false))) ∧
      ∀ h1 : H, h1.n = h.n → (∀ b, b ≠ blk → h1.get b = h.get b) → (l'.length = 0 ∨ ∃ r : List UInt8, r.length = l'.length ∧ h1.get blk = some (.cells g 5 (bytesAV r) 0 false)) → (l'.length = 0 → h1 = h) → SpoiltI lo hi h0 h1 ∧ ∀ p ∈ rs, ∃ l', l'.length = p.2.length ∧ Ow lo h1 p.1 l' := by
  by_cases hz : l'.length = 0
  · exact ⟨0, 0, .inl hz, fun h1 _ _ _ e => by rw [e hz]; exact ⟨hS, hr⟩⟩
  · rcases ho with ⟨_, rfl⟩ | ⟨b, g, h1, h2, h3, h4⟩
    · exact absurd rfl hz
    refine ⟨b, g, .inr ⟨by rcases h4 with e | e <;> exact ⟨_, e⟩, l', rfl, h3⟩, fun k e1 e2 e3 e4 => ?_⟩
    obtain ⟨r, hr1, hr2⟩ := e3.resolve_left hz
    refine ⟨⟨by rw [e1]; exact hS.1, fun c hc => ?_⟩, fun q hq => ?_⟩
    · by_cases hcb : c = b
      · subst hcb
        rcases hc with hc | hc | hc
        · omega
        · rcases h4 with e | e <;> (rw [e] at hbk; simp only [blk_sl] at hbk; omega)
        · exact absurd (by rw [← hS.2 c (.inr (.inr hc))]; exact h3) (hc g (bytesAV l'))
      · rw [e2 c hcb]; exact hS.2 c hc
    · obtain ⟨m, hm, oq⟩ := hr q hq
      rcases oq with h0' | ⟨c, gc, w1, w2, w3, w4⟩
      · exact ⟨m, hm, .inl h0'⟩
      · by_cases hcb : c = b
        · subst hcb
          have e5 := h3.symm.trans w3
          simp only [Option.some.injEq, Blk.cells.injEq, and_true, true_and] at e5
          have e6 : r.length = m.length := by
            have := congrArg List.length e5.2
            simp only [bytes_len] at this
            omega
          refine ⟨r, by omega, .inr ⟨c, gc, w1, by omega, by rw [← e5.1]; exact hr2, ?_⟩⟩
          rw [e6]; exact w4
        · exact ⟨m, hm, .inr ⟨c, gc, w1, by omega, by rw [e2 c hcb]; exact w3, w4⟩⟩

/-- A chain of its own, its blocks between two numbers. -/
structure OwI (lo hi : Nat) (h : H) (v : AV) (ys : List (AV × List UInt8)) : Prop where
  k : OwnK lo h v ys
  hi : Go.Det.blk v ≤ hi ∧ ∀ p ∈ ys, Go.Det.blk p.1 ≤ hi
theorem OwI.of {lo : Nat} {h : H} {v : AV} {ys : List (AV × List UInt8)} (o : OwnK lo h v ys) : OwI lo h.n h v ys := ⟨o, o.bd.2, fun p hp => (o.el p hp).bd.2⟩
theorem OwI.ch {lo hi : Nat} {h : H} {v : AV} {ys : List (AV × List UInt8)} (o : OwI lo hi h v ys) : Ch h v ys := o.k.ch
theorem OwI.parts {lo hi : Nat} {h : H} {v : AV} {xs : List (AV × List UInt8)} (c : OwI lo hi h v xs) : v.cells = [v] ∧ v.one = true ∧ isStrV v = false := c.ch.parts
theorem OwI.bd {lo hi : Nat} {h : H} {v : AV} {xs : List (AV × List UInt8)} (c : OwI lo hi h v xs) : (Go.Det.blk v = 0 ∨ lo < Go.Det.blk v) ∧ Go.Det.blk v ≤ hi := ⟨c.k.bd.1, c.hi.1⟩
theorem OwI.bq {lo hi : Nat} {h : H} {v : AV} {xs : List (AV × List UInt8)} (c : OwI lo hi h v xs) : Dj (Go.Det.blk v = 0 ∨ lo < Go.Det.blk v) ∧ Go.Det.blk v ≤ hi := c.bd
theorem OwI.fr {lo hi : Nat} {h h' : H} {v : AV} {ys : List (AV × List UInt8)} (o : OwI lo hi h v ys) {S : Nat → Prop} (x : Fr S h h') (hs : ∀ s, S s → s ≤ lo ∨ hi < s ∨ h.n < s) : OwI lo hi h' v ys := by
  refine ⟨⟨?_, fun p hp => ?_⟩, o.hi⟩
  · have hv := o.hi.1
    refine o.k.row.imp id ?_
    rintro ⟨b, g, c, h1, h2, h3, rfl, h4⟩
    have := x.1
    exact ⟨b, g, c, h1, by omega, by rw [x.2 b h2 (fun e => by have := hs _ e; simp only [blk_sl] at hv; omega)]; exact h3, rfl, h4⟩
  · have h1 := o.k.el p hp
    have h2 := h1.bd
    have h3 := o.hi.2 p hp
    exact h1.fr x (by
      by_cases h0 : Go.Det.blk p.1 = 0
      · exact .inl h0
      · exact .inr (fun e => by have := hs _ e; omega))

/-! The contracts, told so -/
theorem takerecI {h : H} {y : AV} {l : List UInt8} (hy : Bs h y l) (hl : l.length ≤ maxRow) : ∃ r h', Runs TF 54 [y] h r h' ∧ ∃ t z ps E, r = .tup [entV t z, .int .i64 E] ∧ Ext h h' ∧ OwI h.n h'.n h' z ps ∧ recOf l = (t, says ps, E) := by
  obtain ⟨r, h', c, t, z, ps, E, e, x, o, q⟩ := takerec_run hy hl
  exact ⟨r, h', c, t, z, ps, E, e, x, OwI.of o.k, q⟩
theorem rtakerecI {h : H} {y : AV} {l : List UInt8} (hy : Bs h y l) (hok : Cok y) (hl : l.length ≤ maxRow) : ∃ r h', Runs TF 55 [y] h r h' ∧ ∃ t z ps E, r = .tup [entV t z, .int .i64 E] ∧ Ext h h' ∧ OwI h.n h'.n h' z ps ∧ recOf l = (t, says ps, E) := by
  obtain ⟨r, h', c, t, z, ps, E, e, x, o, q⟩ := rtakerec_run hy hok hl
  exact ⟨r, h', c, t, z, ps, E, e, x, OwI.of o.k, q⟩
end Go.Det

/- Chains as arguments. -/
set_option linter.unusedVariables false
set_option linter.unusedSimpArgs false
namespace Go.Det
open Go.Proofs

theorem flat_one {α β : Type} (f : α → β) : ∀ l : List α, (l.map fun p => [f p]).flatten = l.map f
  | [] => rfl
  | a :: l => by simp [flat_one f l]

theorem mem_fn {α : Type} {n : Nat} {f : Fin n → α} {p : α} (h : p ∈ List.ofFn f) : ∃ j, f j = p := by
  obtain ⟨i, hi, e⟩ := List.getElem_of_mem h
  exact ⟨⟨i, by simpa using hi⟩, by simpa using e⟩

theorem chain_of {h : H} {xs : List (List Int)} {v : AV} (hk : KSl (KSl (KInt .u8) 1) 1 h xs [v]) (hw : ∀ x ∈ xs, ∀ n ∈ x, IntKind.u8.min ≤ n ∧ n ≤ IntKind.u8.max) :
    ∃ ps : List (AV × List UInt8), Ch h v ps ∧ ps.length = xs.length ∧ ∀ p ∈ ps, ∃ x ∈ xs, p.2.length = x.length := by
  obtain ⟨v', e, hv⟩ := hk
  simp only [List.cons.injEq, and_true] at e
  subst e
  rcases hv with ⟨rfl, rfl⟩ | ⟨a, c, rfl, h1, h2, cc, h3, h4, h5⟩
  · exact ⟨[], ⟨.inl ⟨rfl, rfl⟩, fun p hp => by simp at hp, fun a m c e => by cases e⟩, rfl, fun p hp => by simp at hp⟩
  · have key : ∀ j : Fin xs.length, ∃ p : AV × List UInt8, cc[j.1]? = some [p.1] ∧ Bs h p.1 p.2 ∧ Cok p.1 ∧ ∃ x ∈ xs, p.2.length = x.length := by
      intro j
      have hj : xs[j.1]? = some xs[j.1] := List.getElem?_eq_getElem j.2
      obtain ⟨cs, hc, hl⟩ := h5 j.1 _ hj
      obtain ⟨x, b, rfl, hB, hbl, hcap⟩ := hl.bytes (hw _ (List.mem_of_getElem? hj))
      exact ⟨(x, b), hc, hB, fun a m c e => .inl (hcap a m c e), _, List.mem_of_getElem? hj, hbl⟩
    obtain ⟨f, hf⟩ := Classical.axiomOfChoice key
    have e1 : cc = (List.ofFn f).map fun p => [p.1] := by
      apply List.ext_getElem?
      intro i
      by_cases hi : i < xs.length
      · rw [(hf ⟨i, hi⟩).1]; simp [hi]
      · rw [List.getElem?_eq_none (by omega), List.getElem?_eq_none (by simp; omega)]
    refine ⟨List.ofFn f, ⟨.inr ⟨a, .ex c, by rw [List.length_ofFn], h2, ?_⟩, fun p hp => ?_, fun a m c' e => ?_⟩, List.length_ofFn, fun p hp => ?_⟩
    · rw [List.length_ofFn, ← flat_one (fun p : AV × List UInt8 => p.1), ← e1]
      rw [Nat.mul_one] at h3
      exact h3
    · obtain ⟨j, rfl⟩ := mem_fn hp
      exact ⟨(hf j).2.1, (hf j).2.2.1⟩
    · simp only [AV.sl.injEq] at e
      exact .inl ⟨c, e.2.2.symm, by omega⟩
    · obtain ⟨j, rfl⟩ := mem_fn hp
      exact (hf j).2.2.2
end Go.Det

/- The law EntryTakes, walked. -/
set_option linter.unusedVariables false
set_option linter.unusedSimpArgs false
set_option linter.unusedSectionVars false
namespace Go.Det
open Go.Proofs
attribute [local irreducible] Wp Wo Wd iop ev slots quiets wanted put

attribute [local irreducible] recOf itemOf sameE
end Go.Det

/- The law EntryBack, walked. -/
set_option linter.unusedVariables false
set_option linter.unusedSimpArgs false
set_option linter.unusedSectionVars false
namespace Go.Det
open Go.Proofs
attribute [local irreducible] Wp Wo Wd iop ev slots quiets wanted put

theorem leafE_ok {xs : List (AV × List UInt8)} (h : mayE xs = true) : leafE xs = 0 := if_pos h
attribute [local irreducible] recOf itemOf sameE leafE leafX extraX recX mayE
theorem made_rec (xs : List (AV × List UInt8)) (t : Nat) : (recX t xs).length ≤ 3000 := (made_len xs t).2.2
end Go.Det

/- Bundles: the plain law. -/
set_option linter.unusedVariables false
set_option linter.unusedSimpArgs false
namespace Go.Det
open Go.Proofs

abbrev Rec := Nat × List (List UInt8)
def okR (r : Rec) : Prop := r.1 < 2 ^ 64 ∧ mayS r.2 = true
/-- What a bundle's entries are as bytes. -/
def bytesR (rs : List Rec) : List UInt8 := (rs.map fun r => certB (recS r.1 r.2)).flatten
def mayR (rs : List Rec) : Bool := decide (1 ≤ rs.length ∧ rs.length ≤ 16) && rs.all fun r => mayS r.2
def putE (rs : List Rec) : Int := if mayR rs = true then 0 else 1
def putX (rs : List Rec) : List UInt8 := if mayR rs = true then bytesR rs else []

theorem recS_len {t : Nat} {cs : List (List UInt8)} (h : mayS cs = true) : (recS t cs).length ≤ 2500 ∧ 8 ≤ (recS t cs).length := by
  obtain ⟨h1, h2, h3⟩ := mayS_small h
  have := innerS_le cs (fun c hc => (h3 c hc).2)
  simp only [recS, listS, List.length_append, digits_len]
  omega

/-- Entries read, n there already. -/
def takeF : Nat → Nat → List UInt8 → Option (List Rec)
  | 0, _, l => if l = [] then some [] else none
  | k + 1, n, l => if l = [] then some [] else if vE l 3 = 0 ∧ n ≠ 16 then (match recOf (vX l 3) with
    | (t, cs, E) => if E = 0 then (takeF k (n + 1) (vL l 3)).map ((t, cs) :: ·) else none) else none
def takeA (l : List UInt8) : Option (List Rec) := takeF l.length 0 l
def takeOf (l : List UInt8) : List Rec × Int := match takeA l with
  | some (r :: rs) => (r :: rs, 0)
  | _ => ([], 5)

theorem takeF_nil (k n : Nat) : takeF k n [] = some [] := by cases k <;> rfl
theorem takeF_bad {k n : Nat} {l : List UInt8} (hl : l ≠ []) (h : ¬ (vE l 3 = 0 ∧ n ≠ 16)) : takeF (k + 1) n l = none := by
  simp only [takeF]; rw [if_neg hl, if_neg h]
theorem takeF_rec {k n : Nat} {l : List UInt8} {t : Nat} {cs : List (List UInt8)} {E : Int} (hl : l ≠ []) (h : vE l 3 = 0) (h2 : n ≠ 16) (hr : recOf (vX l 3) = (t, cs, E)) : takeF (k + 1) n l = if E = 0 then (takeF k (n + 1) (vL l 3)).map ((t, cs) :: ·) else none := by
  simp only [takeF]; rw [if_neg hl, if_pos ⟨h, h2⟩, hr]

theorem takeF_dec : ∀ (k n : Nat) (l : List UInt8) (rs : List Rec), takeF k n l = some rs → bytesR rs = l ∧ (∀ r ∈ rs, okR r) ∧ (n ≤ 16 → n + rs.length ≤ 16)
  | 0, n, l, rs, h => by
    simp only [takeF] at h
    split at h
    · rename_i e; simp only [Option.some.injEq] at h; subst h; subst e; exact ⟨rfl, by simp, by simp⟩
    · cases h
  | k + 1, n, l, rs, h => by
    by_cases hl : l = []
    · subst hl
      rw [takeF_nil] at h
      simp only [Option.some.injEq] at h; subst h; exact ⟨rfl, by simp, by simp⟩
    · by_cases h1 : vE l 3 = 0 ∧ n ≠ 16
      · obtain ⟨⟨t, cs, E⟩, hr⟩ : ∃ r, recOf (vX l 3) = r := ⟨_, rfl⟩
        rw [takeF_rec hl h1.1 h1.2 hr] at h
        split at h
        · rename_i hE
          simp only [Option.map_eq_some_iff] at h
          obtain ⟨qs, h2, rfl⟩ := h
          obtain ⟨g1, g2, g3⟩ := takeF_dec k (n + 1) _ _ h2
          rcases rec_dec hr with ⟨_, e1, e2, e3⟩ | ⟨e1, _⟩
          · refine ⟨?_, ?_, ?_⟩
            · have : bytesR ((t, cs) :: qs) = certB (recS t cs) ++ bytesR qs := by simp [bytesR]
              rw [this, e2, g1]
              exact enc3 h1.1
            · intro r hr'
              rcases List.mem_cons.1 hr' with rfl | hr'
              · exact ⟨e3, e1⟩
              · exact g2 r hr'
            · intro hn
              have := g3 (by omega)
              simp only [List.length_cons]
              omega
          · omega
        · cases h
      · rw [takeF_bad hl h1] at h; cases h

theorem mayR_iff {rs : List Rec} : mayR rs = true ↔ 1 ≤ rs.length ∧ rs.length ≤ 16 ∧ ∀ r ∈ rs, mayS r.2 = true := by
  simp [mayR, List.all_eq_true, and_assoc]
theorem take_dec {l : List UInt8} {rs : List Rec} {E : Int} (h : takeOf l = (rs, E)) : (E = 0 ∧ mayR rs = true ∧ bytesR rs = l ∧ ∀ r ∈ rs, r.1 < 2 ^ 64) ∨ (E = 5 ∧ rs = []) := by
  unfold takeOf at h
  split at h
  · rename_i r qs e
    simp only [Prod.mk.injEq] at h
    obtain ⟨rfl, rfl⟩ := h
    obtain ⟨g1, g2, g3⟩ := takeF_dec _ _ _ _ e
    have := g3 (by omega)
    exact .inl ⟨rfl, mayR_iff.2 ⟨by simp, by omega, fun r hr => (g2 r hr).2⟩, g1, fun r hr => (g2 r hr).1⟩
  · simp only [Prod.mk.injEq] at h
    exact .inr ⟨h.2.symm, h.1.symm⟩
end Go.Det

/- Functions of the program in the form that the deterministic machine runs. -/
set_option maxRecDepth 100000
namespace Go.Det
open Go.Proofs
def l15_1 : IC := IC.seq (IC.seq (IC.region [{ dst := some 68, op := IOp.mv (IX.t 17), guard := none }, { dst := some 69, op := IOp.mv (IX.t 11), guard := none }, { dst := some 70, op := IOp.mv (IX.t 16), guard := none }, { dst := some 71, op := IOp.ia 2 (IX.t 69) (IX.t 70), guard := none }, { dst := some 72, op := IOp.fa 1 (IX.t 71), guard := none }, { dst := some 73, op := IOp.ld none (IX.t 72), guard := none }, { dst := some 74, op := IOp.len false (IX.t 73), guard := none }, { dst := some 75, op := IOp.bin (BinOp.lss) (IX.t 68) (IX.t 74), guard := none }]) (IC.cond (IX.t 75) (IC.skip) (IC.exit 2))) (IC.seq (IC.block 3 (IC.region [{ dst := some 78, op := IOp.mv (IX.t 11), guard := none }, { dst := some 79, op := IOp.mv (IX.t 16), guard := none }, { dst := some 80, op := IOp.ia 2 (IX.t 78) (IX.t 79), guard := none }, { dst := some 81, op := IOp.fa 1 (IX.t 80), guard := none }, { dst := some 82, op := IOp.ld none (IX.t 81), guard := none }, { dst := some 83, op := IOp.mv (IX.t 17), guard := none }, { dst := some 84, op := IOp.ia 1 (IX.t 82) (IX.t 83), guard := none }, { dst := some 85, op := IOp.ld none (IX.t 84), guard := none }, { dst := some 86, op := IOp.ia 1 (IX.t 85) (IX.c (AV.int (IntKind.i64) 0)), guard := none }, { dst := some 87, op := IOp.ld none (IX.t 86), guard := none }, { dst := some 88, op := IOp.bin (BinOp.xor) (IX.t 87) (IX.c (AV.int (IntKind.u8) 1)), guard := none }, { dst := some 89, op := IOp.ia 1 (IX.t 85) (IX.c (AV.int (IntKind.i64) 0)), guard := none }, { dst := none, op := IOp.st 1 (IX.t 89) (IX.t 88), guard := none }])) (IC.region [{ dst := some 76, op := IOp.mv (IX.t 17), guard := none }, { dst := some 77, op := IOp.bin (BinOp.add) (IX.t 76) (IX.c (AV.int (IntKind.i64) 1)), guard := none }, { dst := some 17, op := IOp.mv (IX.t 77), guard := none }]))
def l15_2 : IC := IC.seq (IC.seq (IC.region [{ dst := some 62, op := IOp.mv (IX.t 16), guard := none }, { dst := some 63, op := IOp.mv (IX.t 11), guard := none }, { dst := some 64, op := IOp.len false (IX.t 63), guard := none }, { dst := some 65, op := IOp.bin (BinOp.lss) (IX.t 62) (IX.t 64), guard := none }]) (IC.cond (IX.t 65) (IC.skip) (IC.exit 0))) (IC.seq (IC.block 1 (IC.seq (IC.region [{ dst := some 17, op := IOp.mv (IX.c (AV.int (IntKind.i64) 0)), guard := none }]) (IC.block 2 (IC.loop l15_1)))) (IC.region [{ dst := some 66, op := IOp.mv (IX.t 16), guard := none }, { dst := some 67, op := IOp.bin (BinOp.add) (IX.t 66) (IX.c (AV.int (IntKind.i64) 1)), guard := none }, { dst := some 16, op := IOp.mv (IX.t 67), guard := none }]))
/-- escritoire/escritoirelaw17.BundleBytes params 2 -/
def ir15 : IFunc := { ntmps := 106, results := [(4, none)], body := IC.seq (IC.region [{ dst := some 4, op := IOp.mv (IX.c (AV.bool false)), guard := none }]) (IC.seq (IC.region [{ dst := some 18, op := IOp.mv (IX.t 0), guard := none }, { dst := some 19, op := IOp.call 63 [IX.t 18], guard := none }, { dst := some 20, op := IOp.mv (IX.t 1), guard := none }, { dst := some 21, op := IOp.app 5 1 1 false (IX.c (AV.nils)) (IX.t 20), guard := none }, { dst := some 5, op := IOp.mv (IX.t 19), guard := none }, { dst := some 6, op := IOp.mv (IX.t 21), guard := none }]) (IC.seq (IC.region [{ dst := some 23, op := IOp.mv (IX.t 5), guard := none }, { dst := some 24, op := IOp.call 64 [IX.t 23], guard := none }, { dst := some 22, op := IOp.mv (IX.t 24), guard := none }, { dst := some 25, op := IOp.ext (IX.t 22) 0, guard := none }, { dst := some 26, op := IOp.ext (IX.t 22) 1, guard := none }, { dst := some 7, op := IOp.mv (IX.t 25), guard := none }, { dst := some 8, op := IOp.mv (IX.t 26), guard := none }]) (IC.seq (IC.region [{ dst := some 28, op := IOp.mv (IX.t 0), guard := none }, { dst := some 29, op := IOp.call 65 [IX.t 28], guard := none }, { dst := some 27, op := IOp.mv (IX.t 29), guard := none }, { dst := some 30, op := IOp.ext (IX.t 27) 0, guard := none }, { dst := some 31, op := IOp.ext (IX.t 27) 1, guard := none }, { dst := some 9, op := IOp.mv (IX.t 30), guard := none }, { dst := some 10, op := IOp.mv (IX.t 31), guard := none }]) (IC.seq (IC.region [{ dst := some 33, op := IOp.mv (IX.t 6), guard := none }, { dst := some 34, op := IOp.call 66 [IX.t 33], guard := none }, { dst := some 32, op := IOp.mv (IX.t 34), guard := none }, { dst := some 35, op := IOp.ext (IX.t 32) 0, guard := none }, { dst := some 36, op := IOp.ext (IX.t 32) 1, guard := none }, { dst := some 11, op := IOp.mv (IX.t 35), guard := none }, { dst := some 12, op := IOp.mv (IX.t 36), guard := none }]) (IC.seq (IC.region [{ dst := some 38, op := IOp.mv (IX.t 1), guard := none }, { dst := some 39, op := IOp.call 67 [IX.t 38], guard := none }, { dst := some 37, op := IOp.mv (IX.t 39), guard := none }, { dst := some 40, op := IOp.ext (IX.t 37) 0, guard := none }, { dst := some 41, op := IOp.ext (IX.t 37) 1, guard := none }, { dst := some 13, op := IOp.mv (IX.t 40), guard := none }, { dst := some 14, op := IOp.mv (IX.t 41), guard := none }]) (IC.seq (IC.region [{ dst := some 42, op := IOp.mv (IX.t 7), guard := none }, { dst := some 43, op := IOp.cvBS (IX.t 42), guard := none }, { dst := some 44, op := IOp.mv (IX.t 9), guard := none }, { dst := some 45, op := IOp.cvBS (IX.t 44), guard := none }, { dst := some 46, op := IOp.bin (BinOp.eql) (IX.t 43) (IX.t 45), guard := none }, { dst := some 47, op := IOp.mv (IX.t 46), guard := none }, { dst := some 48, op := IOp.mv (IX.t 8), guard := some (47, true) }, { dst := some 49, op := IOp.mv (IX.t 10), guard := some (47, true) }, { dst := some 50, op := IOp.bin (BinOp.eql) (IX.t 48) (IX.t 49), guard := some (47, true) }, { dst := some 51, op := IOp.pick (IX.t 47) (IX.t 50) (IX.c (AV.bool false)), guard := none }, { dst := some 52, op := IOp.mv (IX.t 51), guard := none }, { dst := some 53, op := IOp.mv (IX.t 11), guard := some (52, true) }, { dst := some 54, op := IOp.mv (IX.t 13), guard := some (52, true) }, { dst := some 55, op := IOp.call 68 [IX.t 53, IX.t 54], guard := some (52, true) }, { dst := some 56, op := IOp.pick (IX.t 52) (IX.t 55) (IX.c (AV.bool false)), guard := none }, { dst := some 57, op := IOp.mv (IX.t 56), guard := none }, { dst := some 58, op := IOp.mv (IX.t 12), guard := some (57, true) }, { dst := some 59, op := IOp.mv (IX.t 14), guard := some (57, true) }, { dst := some 60, op := IOp.bin (BinOp.eql) (IX.t 58) (IX.t 59), guard := some (57, true) }, { dst := some 61, op := IOp.pick (IX.t 57) (IX.t 60) (IX.c (AV.bool false)), guard := none }, { dst := some 15, op := IOp.mv (IX.t 61), guard := none }]) (IC.seq (IC.seq (IC.region [{ dst := some 16, op := IOp.mv (IX.c (AV.int (IntKind.i64) 0)), guard := none }]) (IC.block 0 (IC.loop l15_2))) (IC.seq (IC.region [{ dst := some 90, op := IOp.mv (IX.t 15), guard := none }, { dst := some 91, op := IOp.mv (IX.t 90), guard := none }, { dst := some 92, op := IOp.mv (IX.t 5), guard := some (91, true) }, { dst := some 93, op := IOp.mv (IX.t 0), guard := some (91, true) }, { dst := some 94, op := IOp.call 68 [IX.t 92, IX.t 93], guard := some (91, true) }, { dst := some 95, op := IOp.pick (IX.t 91) (IX.t 94) (IX.c (AV.bool false)), guard := none }, { dst := some 96, op := IOp.mv (IX.t 95), guard := none }, { dst := some 97, op := IOp.mv (IX.t 6), guard := some (96, true) }, { dst := some 98, op := IOp.cvBS (IX.t 97), guard := some (96, true) }, { dst := some 99, op := IOp.mv (IX.t 1), guard := some (96, true) }, { dst := some 100, op := IOp.cvBS (IX.t 99), guard := some (96, true) }, { dst := some 101, op := IOp.bin (BinOp.eql) (IX.t 98) (IX.t 100), guard := some (96, true) }, { dst := some 102, op := IOp.pick (IX.t 96) (IX.t 101) (IX.c (AV.bool false)), guard := none }, { dst := some 103, op := IOp.mv (IX.t 102), guard := none }, { dst := some 104, op := IOp.call 62 [], guard := some (103, true) }, { dst := some 105, op := IOp.pick (IX.t 103) (IX.t 104) (IX.c (AV.bool false)), guard := none }, { dst := some 4, op := IOp.mv (IX.t 105), guard := none }]) (IC.ret))))))))), known := false } 
theorem f15 : TF 15 = some ir15 := by kernel_rfl
def l63_1 : IC := IC.seq (IC.seq (IC.region [{ dst := some 5, op := IOp.mv (IX.t 4), guard := none }, { dst := some 6, op := IOp.mv (IX.t 0), guard := none }, { dst := some 7, op := IOp.len false (IX.t 6), guard := none }, { dst := some 8, op := IOp.bin (BinOp.lss) (IX.t 5) (IX.t 7), guard := none }]) (IC.cond (IX.t 8) (IC.skip) (IC.exit 0))) (IC.seq (IC.block 1 (IC.region [{ dst := some 11, op := IOp.mv (IX.t 3), guard := none }, { dst := some 12, op := IOp.mv (IX.t 0), guard := none }, { dst := some 13, op := IOp.mv (IX.t 4), guard := none }, { dst := some 14, op := IOp.ia 2 (IX.t 12) (IX.t 13), guard := none }, { dst := some 15, op := IOp.ld (some 2) (IX.t 14), guard := none }, { dst := some 16, op := IOp.call 40 [IX.t 15], guard := none }, { dst := some 17, op := IOp.bsl 70 [AV.int (IntKind.u64) 0, AV.nils] 1 [(0, 2, IX.t 16)], guard := none }, { dst := some 18, op := IOp.app 70 2 32 false (IX.t 11) (IX.t 17), guard := none }, { dst := some 3, op := IOp.mv (IX.t 18), guard := none }])) (IC.region [{ dst := some 9, op := IOp.mv (IX.t 4), guard := none }, { dst := some 10, op := IOp.bin (BinOp.add) (IX.t 9) (IX.c (AV.int (IntKind.i64) 1)), guard := none }, { dst := some 4, op := IOp.mv (IX.t 10), guard := none }]))
/-- escritoire/escritoirelaw17.own params 1 -/
def ir63 : IFunc := { ntmps := 20, results := [(2, none)], body := IC.seq (IC.region [{ dst := some 2, op := IOp.mv (IX.c (AV.nils)), guard := none }]) (IC.seq (IC.region [{ dst := some 3, op := IOp.mv (IX.c (AV.nils)), guard := none }]) (IC.seq (IC.seq (IC.region [{ dst := some 4, op := IOp.mv (IX.c (AV.int (IntKind.i64) 0)), guard := none }]) (IC.block 0 (IC.loop l63_1))) (IC.seq (IC.region [{ dst := some 19, op := IOp.mv (IX.t 3), guard := none }, { dst := some 2, op := IOp.mv (IX.t 19), guard := none }]) (IC.ret)))), known := false } 
theorem f63 : TF 63 = some ir63 := by kernel_rfl
def l64_1 : IC := IC.seq (IC.region [{ dst := some 20, op := IOp.bin (BinOp.lss) (IX.t 19) (IX.t 18), guard := none }]) (IC.seq (IC.cond (IX.t 20) (IC.skip) (IC.exit 0)) (IC.seq (IC.block 1 (IC.seq (IC.region [{ dst := some 21, op := IOp.ia 2 (IX.t 17) (IX.t 19), guard := none }, { dst := some 22, op := IOp.ld (some 2) (IX.t 21), guard := none }, { dst := some 6, op := IOp.new 70 (IX.c (AV.agg [AV.int (IntKind.u64) 0, AV.nils])), guard := none }, { dst := none, op := IOp.st 2 (IX.t 6) (IX.t 22), guard := none }]) (IC.seq (IC.region [{ dst := some 24, op := IOp.ld (some 2) (IX.t 6), guard := none }, { dst := some 25, op := IOp.call 44 [IX.t 24], guard := none }, { dst := some 23, op := IOp.mv (IX.t 25), guard := none }, { dst := some 26, op := IOp.ext (IX.t 23) 0, guard := none }, { dst := some 27, op := IOp.ext (IX.t 23) 1, guard := none }, { dst := some 7, op := IOp.mv (IX.t 26), guard := none }, { dst := some 8, op := IOp.mv (IX.t 27), guard := none }]) (IC.seq (IC.seq (IC.region [{ dst := some 28, op := IOp.mv (IX.t 8), guard := none }, { dst := some 29, op := IOp.bin (BinOp.neq) (IX.t 28) (IX.c (AV.int (IntKind.i64) 0)), guard := none }]) (IC.cond (IX.t 29) (IC.seq (IC.region [{ dst := some 2, op := IOp.mv (IX.c (AV.nils)), guard := none }, { dst := some 3, op := IOp.mv (IX.c (AV.int (IntKind.i64) 1)), guard := none }]) (IC.ret)) (IC.skip))) (IC.seq (IC.region [{ dst := some 31, op := IOp.mv (IX.t 4), guard := none }, { dst := some 32, op := IOp.mv (IX.t 7), guard := none }, { dst := some 33, op := IOp.call 21 [IX.t 31, IX.t 32, IX.c (AV.int (IntKind.i64) 3)], guard := none }, { dst := some 30, op := IOp.mv (IX.t 33), guard := none }, { dst := some 34, op := IOp.ext (IX.t 30) 0, guard := none }, { dst := some 35, op := IOp.ext (IX.t 30) 1, guard := none }, { dst := some 4, op := IOp.mv (IX.t 34), guard := none }, { dst := some 8, op := IOp.mv (IX.t 35), guard := none }]) (IC.seq (IC.region [{ dst := some 36, op := IOp.mv (IX.t 8), guard := none }, { dst := some 37, op := IOp.bin (BinOp.neq) (IX.t 36) (IX.c (AV.int (IntKind.i64) 0)), guard := none }]) (IC.cond (IX.t 37) (IC.seq (IC.region [{ dst := some 2, op := IOp.mv (IX.c (AV.nils)), guard := none }, { dst := some 3, op := IOp.mv (IX.c (AV.int (IntKind.i64) 1)), guard := none }]) (IC.ret)) (IC.skip)))))))) (IC.region [{ dst := some 38, op := IOp.bin (BinOp.add) (IX.t 19) (IX.c (AV.int (IntKind.i64) 1)), guard := none }, { dst := some 19, op := IOp.mv (IX.t 38), guard := none }])))
/-- escritoire/bundle.Put params 1 -/
def ir64 : IFunc := { ntmps := 40, results := [(2, none), (3, none)], body := IC.seq (IC.region [{ dst := some 2, op := IOp.mv (IX.c (AV.nils)), guard := none }, { dst := some 3, op := IOp.mv (IX.c (AV.int (IntKind.i64) 0)), guard := none }]) (IC.seq (IC.seq (IC.region [{ dst := some 9, op := IOp.mv (IX.t 0), guard := none }, { dst := some 10, op := IOp.len false (IX.t 9), guard := none }, { dst := some 11, op := IOp.bin (BinOp.lss) (IX.t 10) (IX.c (AV.int (IntKind.i64) 1)), guard := none }, { dst := some 12, op := IOp.mv (IX.t 11), guard := none }, { dst := some 13, op := IOp.mv (IX.t 0), guard := some (12, false) }, { dst := some 14, op := IOp.len false (IX.t 13), guard := some (12, false) }, { dst := some 15, op := IOp.bin (BinOp.gtr) (IX.t 14) (IX.c (AV.int (IntKind.i64) 16)), guard := some (12, false) }, { dst := some 16, op := IOp.pick (IX.t 12) (IX.c (AV.bool true)) (IX.t 15), guard := none }]) (IC.cond (IX.t 16) (IC.seq (IC.region [{ dst := some 2, op := IOp.mv (IX.c (AV.nils)), guard := none }, { dst := some 3, op := IOp.mv (IX.c (AV.int (IntKind.i64) 1)), guard := none }]) (IC.ret)) (IC.skip))) (IC.seq (IC.region [{ dst := some 4, op := IOp.mv (IX.c (AV.nils)), guard := none }]) (IC.seq (IC.seq (IC.region [{ dst := some 17, op := IOp.mv (IX.t 0), guard := none }, { dst := some 18, op := IOp.len false (IX.t 17), guard := none }, { dst := some 19, op := IOp.mv (IX.c (AV.int (IntKind.i64) 0)), guard := none }]) (IC.block 0 (IC.loop l64_1))) (IC.seq (IC.region [{ dst := some 39, op := IOp.mv (IX.t 4), guard := none }, { dst := some 2, op := IOp.mv (IX.t 39), guard := none }, { dst := some 3, op := IOp.mv (IX.c (AV.int (IntKind.i64) 0)), guard := none }]) (IC.ret))))), known := false } 
theorem f64 : TF 64 = some ir64 := by kernel_rfl
def l65_1 : IC := IC.seq (IC.seq (IC.region [{ dst := some 16, op := IOp.mv (IX.t 5), guard := none }, { dst := some 17, op := IOp.mv (IX.t 0), guard := none }, { dst := some 18, op := IOp.len false (IX.t 17), guard := none }, { dst := some 19, op := IOp.bin (BinOp.lss) (IX.t 16) (IX.t 18), guard := none }]) (IC.cond (IX.t 19) (IC.skip) (IC.exit 0))) (IC.seq (IC.block 1 (IC.seq (IC.region [{ dst := some 23, op := IOp.mv (IX.t 0), guard := none }, { dst := some 24, op := IOp.mv (IX.t 5), guard := none }, { dst := some 25, op := IOp.ia 2 (IX.t 23) (IX.t 24), guard := none }, { dst := some 26, op := IOp.ld (some 2) (IX.t 25), guard := none }, { dst := some 27, op := IOp.call 45 [IX.t 26], guard := none }, { dst := some 22, op := IOp.mv (IX.t 27), guard := none }, { dst := some 28, op := IOp.ext (IX.t 22) 0, guard := none }, { dst := some 29, op := IOp.ext (IX.t 22) 1, guard := none }, { dst := some 6, op := IOp.mv (IX.t 28), guard := none }, { dst := some 7, op := IOp.mv (IX.t 29), guard := none }]) (IC.seq (IC.seq (IC.region [{ dst := some 30, op := IOp.mv (IX.t 7), guard := none }, { dst := some 31, op := IOp.bin (BinOp.neq) (IX.t 30) (IX.c (AV.int (IntKind.i64) 0)), guard := none }]) (IC.cond (IX.t 31) (IC.seq (IC.region [{ dst := some 2, op := IOp.mv (IX.c (AV.nils)), guard := none }, { dst := some 3, op := IOp.mv (IX.c (AV.int (IntKind.i64) 1)), guard := none }]) (IC.ret)) (IC.skip))) (IC.region [{ dst := some 33, op := IOp.mv (IX.t 4), guard := none }, { dst := some 34, op := IOp.mv (IX.t 6), guard := none }, { dst := some 35, op := IOp.call 22 [IX.t 33, IX.t 34, IX.c (AV.int (IntKind.i64) 3)], guard := none }, { dst := some 32, op := IOp.mv (IX.t 35), guard := none }, { dst := some 36, op := IOp.ext (IX.t 32) 0, guard := none }, { dst := some 37, op := IOp.ext (IX.t 32) 1, guard := none }, { dst := some 4, op := IOp.mv (IX.t 36), guard := none }])))) (IC.region [{ dst := some 20, op := IOp.mv (IX.t 5), guard := none }, { dst := some 21, op := IOp.bin (BinOp.add) (IX.t 20) (IX.c (AV.int (IntKind.i64) 1)), guard := none }, { dst := some 5, op := IOp.mv (IX.t 21), guard := none }]))
/-- escritoire/escritoireref17.Put params 1 -/
def ir65 : IFunc := { ntmps := 39, results := [(2, none), (3, none)], body := IC.seq (IC.region [{ dst := some 2, op := IOp.mv (IX.c (AV.nils)), guard := none }, { dst := some 3, op := IOp.mv (IX.c (AV.int (IntKind.i64) 0)), guard := none }]) (IC.seq (IC.seq (IC.region [{ dst := some 8, op := IOp.mv (IX.t 0), guard := none }, { dst := some 9, op := IOp.len false (IX.t 8), guard := none }, { dst := some 10, op := IOp.bin (BinOp.eql) (IX.t 9) (IX.c (AV.int (IntKind.i64) 0)), guard := none }, { dst := some 11, op := IOp.mv (IX.t 10), guard := none }, { dst := some 12, op := IOp.mv (IX.t 0), guard := some (11, false) }, { dst := some 13, op := IOp.len false (IX.t 12), guard := some (11, false) }, { dst := some 14, op := IOp.bin (BinOp.gtr) (IX.t 13) (IX.c (AV.int (IntKind.i64) 16)), guard := some (11, false) }, { dst := some 15, op := IOp.pick (IX.t 11) (IX.c (AV.bool true)) (IX.t 14), guard := none }]) (IC.cond (IX.t 15) (IC.seq (IC.region [{ dst := some 2, op := IOp.mv (IX.c (AV.nils)), guard := none }, { dst := some 3, op := IOp.mv (IX.c (AV.int (IntKind.i64) 1)), guard := none }]) (IC.ret)) (IC.skip))) (IC.seq (IC.region [{ dst := some 4, op := IOp.mv (IX.c (AV.nils)), guard := none }]) (IC.seq (IC.seq (IC.region [{ dst := some 5, op := IOp.mv (IX.c (AV.int (IntKind.i64) 0)), guard := none }]) (IC.block 0 (IC.loop l65_1))) (IC.seq (IC.region [{ dst := some 38, op := IOp.mv (IX.t 4), guard := none }, { dst := some 2, op := IOp.mv (IX.t 38), guard := none }, { dst := some 3, op := IOp.mv (IX.c (AV.int (IntKind.i64) 0)), guard := none }]) (IC.ret))))), known := false } 
theorem f65 : TF 65 = some ir65 := by kernel_rfl
def l66_1 : IC := IC.seq (IC.seq (IC.region [{ dst := some 14, op := IOp.mv (IX.t 4), guard := none }, { dst := some 15, op := IOp.call 33 [IX.t 14], guard := none }, { dst := some 16, op := IOp.bin (BinOp.gtr) (IX.t 15) (IX.c (AV.int (IntKind.i64) 0)), guard := none }]) (IC.cond (IX.t 16) (IC.skip) (IC.exit 0))) (IC.block 1 (IC.seq (IC.region [{ dst := some 18, op := IOp.mv (IX.t 5), guard := none }, { dst := some 19, op := IOp.callv (IX.t 18) [IX.c (AV.int (IntKind.i64) 3)], guard := none }, { dst := some 17, op := IOp.mv (IX.t 19), guard := none }, { dst := some 20, op := IOp.ext (IX.t 17) 0, guard := none }, { dst := some 21, op := IOp.ext (IX.t 17) 1, guard := none }, { dst := some 7, op := IOp.mv (IX.t 20), guard := none }, { dst := some 8, op := IOp.mv (IX.t 21), guard := none }]) (IC.seq (IC.seq (IC.region [{ dst := some 22, op := IOp.mv (IX.t 8), guard := none }, { dst := some 23, op := IOp.bin (BinOp.neq) (IX.t 22) (IX.c (AV.int (IntKind.i64) 0)), guard := none }, { dst := some 24, op := IOp.mv (IX.t 23), guard := none }, { dst := some 25, op := IOp.mv (IX.t 6), guard := some (24, false) }, { dst := some 26, op := IOp.len false (IX.t 25), guard := some (24, false) }, { dst := some 27, op := IOp.bin (BinOp.eql) (IX.t 26) (IX.c (AV.int (IntKind.i64) 16)), guard := some (24, false) }, { dst := some 28, op := IOp.pick (IX.t 24) (IX.c (AV.bool true)) (IX.t 27), guard := none }]) (IC.cond (IX.t 28) (IC.seq (IC.region [{ dst := some 2, op := IOp.mv (IX.c (AV.nils)), guard := none }, { dst := some 3, op := IOp.mv (IX.c (AV.int (IntKind.i64) 5)), guard := none }]) (IC.ret)) (IC.skip))) (IC.seq (IC.region [{ dst := some 30, op := IOp.mv (IX.t 7), guard := none }, { dst := some 31, op := IOp.call 54 [IX.t 30], guard := none }, { dst := some 29, op := IOp.mv (IX.t 31), guard := none }, { dst := some 32, op := IOp.ext (IX.t 29) 0, guard := none }, { dst := some 33, op := IOp.ext (IX.t 29) 1, guard := none }, { dst := some 9, op := IOp.new 70 (IX.c (AV.agg [AV.int (IntKind.u64) 0, AV.nils])), guard := none }, { dst := none, op := IOp.st 2 (IX.t 9) (IX.t 32), guard := none }, { dst := some 8, op := IOp.mv (IX.t 33), guard := none }]) (IC.seq (IC.seq (IC.region [{ dst := some 34, op := IOp.mv (IX.t 8), guard := none }, { dst := some 35, op := IOp.bin (BinOp.neq) (IX.t 34) (IX.c (AV.int (IntKind.i64) 0)), guard := none }]) (IC.cond (IX.t 35) (IC.seq (IC.region [{ dst := some 2, op := IOp.mv (IX.c (AV.nils)), guard := none }, { dst := some 3, op := IOp.mv (IX.c (AV.int (IntKind.i64) 5)), guard := none }]) (IC.ret)) (IC.skip))) (IC.region [{ dst := some 36, op := IOp.mv (IX.t 6), guard := none }, { dst := some 37, op := IOp.ld (some 2) (IX.t 9), guard := none }, { dst := some 38, op := IOp.bsl 70 [AV.int (IntKind.u64) 0, AV.nils] 1 [(0, 2, IX.t 37)], guard := none }, { dst := some 39, op := IOp.app 70 2 32 false (IX.t 36) (IX.t 38), guard := none }, { dst := some 6, op := IOp.mv (IX.t 39), guard := none }]))))))
/-- escritoire/bundle.Take params 1 -/
def ir66 : IFunc := { ntmps := 44, results := [(2, none), (3, none)], body := IC.seq (IC.region [{ dst := some 2, op := IOp.mv (IX.c (AV.nils)), guard := none }, { dst := some 3, op := IOp.mv (IX.c (AV.int (IntKind.i64) 0)), guard := none }]) (IC.seq (IC.region [{ dst := some 10, op := IOp.mv (IX.t 0), guard := none }, { dst := some 11, op := IOp.call 25 [IX.t 10], guard := none }, { dst := some 4, op := IOp.mv (IX.t 11), guard := none }]) (IC.seq (IC.region [{ dst := some 12, op := IOp.mv (IX.t 4), guard := none }, { dst := some 13, op := IOp.mkF (Fn.func 29) [IX.t 12] [], guard := none }, { dst := some 5, op := IOp.mv (IX.t 13), guard := none }]) (IC.seq (IC.region [{ dst := some 6, op := IOp.mv (IX.c (AV.nils)), guard := none }]) (IC.seq (IC.block 0 (IC.loop l66_1)) (IC.seq (IC.seq (IC.region [{ dst := some 40, op := IOp.mv (IX.t 6), guard := none }, { dst := some 41, op := IOp.len false (IX.t 40), guard := none }, { dst := some 42, op := IOp.bin (BinOp.eql) (IX.t 41) (IX.c (AV.int (IntKind.i64) 0)), guard := none }]) (IC.cond (IX.t 42) (IC.seq (IC.region [{ dst := some 2, op := IOp.mv (IX.c (AV.nils)), guard := none }, { dst := some 3, op := IOp.mv (IX.c (AV.int (IntKind.i64) 5)), guard := none }]) (IC.ret)) (IC.skip))) (IC.seq (IC.region [{ dst := some 43, op := IOp.mv (IX.t 6), guard := none }, { dst := some 2, op := IOp.mv (IX.t 43), guard := none }, { dst := some 3, op := IOp.mv (IX.c (AV.int (IntKind.i64) 0)), guard := none }]) (IC.ret))))))), known := false } 
theorem f66 : TF 66 = some ir66 := by kernel_rfl
def l67_1 : IC := IC.seq (IC.seq (IC.region [{ dst := some 9, op := IOp.mv (IX.t 5), guard := none }, { dst := some 10, op := IOp.mv (IX.t 0), guard := none }, { dst := some 11, op := IOp.len false (IX.t 10), guard := none }, { dst := some 12, op := IOp.bin (BinOp.lss) (IX.t 9) (IX.t 11), guard := none }]) (IC.cond (IX.t 12) (IC.skip) (IC.exit 0))) (IC.block 1 (IC.seq (IC.seq (IC.region [{ dst := some 13, op := IOp.mv (IX.t 0), guard := none }, { dst := some 14, op := IOp.len false (IX.t 13), guard := none }, { dst := some 15, op := IOp.mv (IX.t 5), guard := none }, { dst := some 16, op := IOp.bin (BinOp.sub) (IX.t 14) (IX.t 15), guard := none }, { dst := some 17, op := IOp.bin (BinOp.lss) (IX.t 16) (IX.c (AV.int (IntKind.i64) 3)), guard := none }, { dst := some 18, op := IOp.mv (IX.t 17), guard := none }, { dst := some 19, op := IOp.mv (IX.t 4), guard := some (18, false) }, { dst := some 20, op := IOp.len false (IX.t 19), guard := some (18, false) }, { dst := some 21, op := IOp.bin (BinOp.eql) (IX.t 20) (IX.c (AV.int (IntKind.i64) 16)), guard := some (18, false) }, { dst := some 22, op := IOp.pick (IX.t 18) (IX.c (AV.bool true)) (IX.t 21), guard := none }]) (IC.cond (IX.t 22) (IC.seq (IC.region [{ dst := some 2, op := IOp.mv (IX.c (AV.nils)), guard := none }, { dst := some 3, op := IOp.mv (IX.c (AV.int (IntKind.i64) 5)), guard := none }]) (IC.ret)) (IC.skip))) (IC.seq (IC.draw [{ toIOper := { dst := some 23, op := IOp.mv (IX.t 0), guard := none }, act := false, id := 0, mask := 0 }, { toIOper := { dst := some 24, op := IOp.mv (IX.t 5), guard := none }, act := false, id := 1, mask := 0 }, { toIOper := { dst := some 25, op := IOp.ia 1 (IX.t 23) (IX.t 24), guard := none }, act := false, id := 2, mask := 3 }, { toIOper := { dst := some 26, op := IOp.ld none (IX.t 25), guard := none }, act := false, id := 3, mask := 7 }, { toIOper := { dst := some 27, op := IOp.cvI (IntKind.i64) (IX.t 26), guard := none }, act := false, id := 4, mask := 15 }, { toIOper := { dst := some 28, op := IOp.bin (BinOp.mul) (IX.c (AV.int (IntKind.i64) 65536)) (IX.t 27), guard := none }, act := false, id := 5, mask := 31 }, { toIOper := { dst := some 29, op := IOp.mv (IX.t 0), guard := none }, act := false, id := 6, mask := 0 }, { toIOper := { dst := some 30, op := IOp.mv (IX.t 5), guard := none }, act := false, id := 7, mask := 0 }, { toIOper := { dst := some 31, op := IOp.bin (BinOp.add) (IX.t 30) (IX.c (AV.int (IntKind.i64) 1)), guard := none }, act := false, id := 8, mask := 128 }, { toIOper := { dst := some 32, op := IOp.ia 1 (IX.t 29) (IX.t 31), guard := none }, act := false, id := 9, mask := 448 }, { toIOper := { dst := some 33, op := IOp.ld none (IX.t 32), guard := none }, act := false, id := 10, mask := 960 }, { toIOper := { dst := some 34, op := IOp.cvI (IntKind.i64) (IX.t 33), guard := none }, act := false, id := 11, mask := 1984 }, { toIOper := { dst := some 35, op := IOp.bin (BinOp.mul) (IX.c (AV.int (IntKind.i64) 256)) (IX.t 34), guard := none }, act := false, id := 12, mask := 4032 }, { toIOper := { dst := some 36, op := IOp.bin (BinOp.add) (IX.t 28) (IX.t 35), guard := none }, act := false, id := 13, mask := 8191 }, { toIOper := { dst := some 37, op := IOp.mv (IX.t 0), guard := none }, act := false, id := 14, mask := 0 }, { toIOper := { dst := some 38, op := IOp.mv (IX.t 5), guard := none }, act := false, id := 15, mask := 0 }, { toIOper := { dst := some 39, op := IOp.bin (BinOp.add) (IX.t 38) (IX.c (AV.int (IntKind.i64) 2)), guard := none }, act := false, id := 16, mask := 32768 }, { toIOper := { dst := some 40, op := IOp.ia 1 (IX.t 37) (IX.t 39), guard := none }, act := false, id := 17, mask := 114688 }, { toIOper := { dst := some 41, op := IOp.ld none (IX.t 40), guard := none }, act := false, id := 18, mask := 245760 }, { toIOper := { dst := some 42, op := IOp.cvI (IntKind.i64) (IX.t 41), guard := none }, act := false, id := 19, mask := 507904 }, { toIOper := { dst := some 43, op := IOp.bin (BinOp.add) (IX.t 36) (IX.t 42), guard := none }, act := false, id := 20, mask := 1048575 }, { toIOper := { dst := some 6, op := IOp.mv (IX.t 43), guard := none }, act := false, id := 21, mask := 2097151 }]) (IC.seq (IC.seq (IC.region [{ dst := some 44, op := IOp.mv (IX.t 0), guard := none }, { dst := some 45, op := IOp.len false (IX.t 44), guard := none }, { dst := some 46, op := IOp.mv (IX.t 5), guard := none }, { dst := some 47, op := IOp.bin (BinOp.sub) (IX.t 45) (IX.t 46), guard := none }, { dst := some 48, op := IOp.bin (BinOp.sub) (IX.t 47) (IX.c (AV.int (IntKind.i64) 3)), guard := none }, { dst := some 49, op := IOp.mv (IX.t 6), guard := none }, { dst := some 50, op := IOp.bin (BinOp.lss) (IX.t 48) (IX.t 49), guard := none }]) (IC.cond (IX.t 50) (IC.seq (IC.region [{ dst := some 2, op := IOp.mv (IX.c (AV.nils)), guard := none }, { dst := some 3, op := IOp.mv (IX.c (AV.int (IntKind.i64) 5)), guard := none }]) (IC.ret)) (IC.skip))) (IC.seq (IC.region [{ dst := some 52, op := IOp.mv (IX.t 0), guard := none }, { dst := some 53, op := IOp.mv (IX.t 5), guard := none }, { dst := some 54, op := IOp.bin (BinOp.add) (IX.t 53) (IX.c (AV.int (IntKind.i64) 3)), guard := none }, { dst := some 55, op := IOp.mv (IX.t 5), guard := none }, { dst := some 56, op := IOp.bin (BinOp.add) (IX.t 55) (IX.c (AV.int (IntKind.i64) 3)), guard := none }, { dst := some 57, op := IOp.mv (IX.t 6), guard := none }, { dst := some 58, op := IOp.bin (BinOp.add) (IX.t 56) (IX.t 57), guard := none }, { dst := some 59, op := IOp.slL 1 (IX.t 52) (some (IX.t 54)) (some (IX.t 58)) none, guard := none }, { dst := some 60, op := IOp.call 55 [IX.t 59], guard := none }, { dst := some 51, op := IOp.mv (IX.t 60), guard := none }, { dst := some 61, op := IOp.ext (IX.t 51) 0, guard := none }, { dst := some 62, op := IOp.ext (IX.t 51) 1, guard := none }, { dst := some 7, op := IOp.new 70 (IX.c (AV.agg [AV.int (IntKind.u64) 0, AV.nils])), guard := none }, { dst := none, op := IOp.st 2 (IX.t 7) (IX.t 61), guard := none }, { dst := some 8, op := IOp.mv (IX.t 62), guard := none }]) (IC.seq (IC.seq (IC.region [{ dst := some 63, op := IOp.mv (IX.t 8), guard := none }, { dst := some 64, op := IOp.bin (BinOp.neq) (IX.t 63) (IX.c (AV.int (IntKind.i64) 0)), guard := none }]) (IC.cond (IX.t 64) (IC.seq (IC.region [{ dst := some 2, op := IOp.mv (IX.c (AV.nils)), guard := none }, { dst := some 3, op := IOp.mv (IX.c (AV.int (IntKind.i64) 5)), guard := none }]) (IC.ret)) (IC.skip))) (IC.seq (IC.region [{ dst := some 65, op := IOp.mv (IX.t 4), guard := none }, { dst := some 66, op := IOp.ld (some 2) (IX.t 7), guard := none }, { dst := some 67, op := IOp.bsl 70 [AV.int (IntKind.u64) 0, AV.nils] 1 [(0, 2, IX.t 66)], guard := none }, { dst := some 68, op := IOp.app 70 2 32 false (IX.t 65) (IX.t 67), guard := none }, { dst := some 4, op := IOp.mv (IX.t 68), guard := none }]) (IC.region [{ dst := some 69, op := IOp.mv (IX.t 5), guard := none }, { dst := some 70, op := IOp.bin (BinOp.add) (IX.t 69) (IX.c (AV.int (IntKind.i64) 3)), guard := none }, { dst := some 71, op := IOp.mv (IX.t 6), guard := none }, { dst := some 72, op := IOp.bin (BinOp.add) (IX.t 70) (IX.t 71), guard := none }, { dst := some 5, op := IOp.mv (IX.t 72), guard := none }]))))))))
/-- escritoire/escritoireref17.Take params 1 -/
def ir67 : IFunc := { ntmps := 77, results := [(2, none), (3, none)], body := IC.seq (IC.region [{ dst := some 2, op := IOp.mv (IX.c (AV.nils)), guard := none }, { dst := some 3, op := IOp.mv (IX.c (AV.int (IntKind.i64) 0)), guard := none }]) (IC.seq (IC.region [{ dst := some 4, op := IOp.mv (IX.c (AV.nils)), guard := none }]) (IC.seq (IC.seq (IC.region [{ dst := some 5, op := IOp.mv (IX.c (AV.int (IntKind.i64) 0)), guard := none }]) (IC.block 0 (IC.loop l67_1))) (IC.seq (IC.seq (IC.region [{ dst := some 73, op := IOp.mv (IX.t 4), guard := none }, { dst := some 74, op := IOp.len false (IX.t 73), guard := none }, { dst := some 75, op := IOp.bin (BinOp.eql) (IX.t 74) (IX.c (AV.int (IntKind.i64) 0)), guard := none }]) (IC.cond (IX.t 75) (IC.seq (IC.region [{ dst := some 2, op := IOp.mv (IX.c (AV.nils)), guard := none }, { dst := some 3, op := IOp.mv (IX.c (AV.int (IntKind.i64) 5)), guard := none }]) (IC.ret)) (IC.skip))) (IC.seq (IC.region [{ dst := some 76, op := IOp.mv (IX.t 4), guard := none }, { dst := some 2, op := IOp.mv (IX.t 76), guard := none }, { dst := some 3, op := IOp.mv (IX.c (AV.int (IntKind.i64) 0)), guard := none }]) (IC.ret))))), known := false } 
theorem f67 : TF 67 = some ir67 := by kernel_rfl
def l68_1 : IC := IC.seq (IC.seq (IC.region [{ dst := some 11, op := IOp.mv (IX.t 5), guard := none }, { dst := some 12, op := IOp.mv (IX.t 0), guard := none }, { dst := some 13, op := IOp.len false (IX.t 12), guard := none }, { dst := some 14, op := IOp.bin (BinOp.lss) (IX.t 11) (IX.t 13), guard := none }]) (IC.cond (IX.t 14) (IC.skip) (IC.exit 0))) (IC.seq (IC.block 1 (IC.seq (IC.draw [{ toIOper := { dst := some 17, op := IOp.mv (IX.t 0), guard := none }, act := false, id := 0, mask := 0 }, { toIOper := { dst := some 18, op := IOp.mv (IX.t 5), guard := none }, act := false, id := 1, mask := 0 }, { toIOper := { dst := some 19, op := IOp.ia 2 (IX.t 17) (IX.t 18), guard := none }, act := false, id := 2, mask := 3 }, { toIOper := { dst := some 20, op := IOp.ld (some 2) (IX.t 19), guard := none }, act := false, id := 3, mask := 7 }, { toIOper := { dst := some 21, op := IOp.mv (IX.t 1), guard := none }, act := false, id := 4, mask := 0 }, { toIOper := { dst := some 22, op := IOp.mv (IX.t 5), guard := none }, act := false, id := 5, mask := 0 }, { toIOper := { dst := some 23, op := IOp.ia 2 (IX.t 21) (IX.t 22), guard := none }, act := false, id := 6, mask := 48 }, { toIOper := { dst := some 24, op := IOp.ld (some 2) (IX.t 23), guard := none }, act := false, id := 7, mask := 112 }, { toIOper := { dst := some 25, op := IOp.call 52 [IX.t 20, IX.t 24], guard := none }, act := true, id := 8, mask := 255 }, { toIOper := { dst := some 26, op := IOp.un (UnOp.not) (IX.t 25), guard := none }, act := false, id := 9, mask := 511 }]) (IC.cond (IX.t 26) (IC.seq (IC.region [{ dst := some 4, op := IOp.mv (IX.c (AV.bool false)), guard := none }]) (IC.ret)) (IC.skip)))) (IC.region [{ dst := some 15, op := IOp.mv (IX.t 5), guard := none }, { dst := some 16, op := IOp.bin (BinOp.add) (IX.t 15) (IX.c (AV.int (IntKind.i64) 1)), guard := none }, { dst := some 5, op := IOp.mv (IX.t 16), guard := none }]))
/-- escritoire/escritoireref17.Same params 2 -/
def ir68 : IFunc := { ntmps := 27, results := [(4, none)], body := IC.seq (IC.region [{ dst := some 4, op := IOp.mv (IX.c (AV.bool false)), guard := none }]) (IC.seq (IC.seq (IC.region [{ dst := some 6, op := IOp.mv (IX.t 0), guard := none }, { dst := some 7, op := IOp.len false (IX.t 6), guard := none }, { dst := some 8, op := IOp.mv (IX.t 1), guard := none }, { dst := some 9, op := IOp.len false (IX.t 8), guard := none }, { dst := some 10, op := IOp.bin (BinOp.neq) (IX.t 7) (IX.t 9), guard := none }]) (IC.cond (IX.t 10) (IC.seq (IC.region [{ dst := some 4, op := IOp.mv (IX.c (AV.bool false)), guard := none }]) (IC.ret)) (IC.skip))) (IC.seq (IC.seq (IC.region [{ dst := some 5, op := IOp.mv (IX.c (AV.int (IntKind.i64) 0)), guard := none }]) (IC.block 0 (IC.loop l68_1))) (IC.seq (IC.region [{ dst := some 4, op := IOp.mv (IX.c (AV.bool true)), guard := none }]) (IC.ret)))), known := false } 
theorem f68 : TF 68 = some ir68 := by kernel_rfl
end Go.Det

/- Rows of any cells, of their own; rows of entries. -/
set_option linter.unusedVariables false
set_option linter.unusedSimpArgs false
set_option linter.unusedSectionVars false
namespace Go.Det
open Go.Proofs

/-- A row of n elements of sz cells each, its block its own. -/
def RowG (e sz lo : Nat) (h : H) (v : AV) (cs : List AV) (n : Nat) : Prop := (v = .nils ∧ cs = [] ∧ n = 0) ∨ ∃ b g c, lo ≤ b ∧ b < h.n ∧ h.get b = some (.cells g e cs 0 false) ∧ v = .sl ⟨b, g, 0⟩ n c ∧ cs.length = n * sz ∧ (c = .op sz ∨ c = .ex n)

theorem RowG.app {e sz lo n m bytes : Nat} {h : H} {v w : AV} {cs new : List AV} (o : RowG e sz lo h v cs n) (hlo : lo ≤ h.n) (hs : srcCells h sz w = some (m, new)) (hm : new.length = m * sz) (hsz : 0 < sz) (h1 : new.all AV.one = true) (fit : fits (n + m) bytes = true) (hle : n + m ≤ 9223372036854775807) :
    ∃ v' h', append h e sz bytes v w = some (.val v' h') ∧ RowG e sz lo h' v' (cs ++ new) (n + m) ∧ Fr (fun s => s = blk v) h h' := by
  unfold append
  simp only [hs]
  by_cases h0 : m = 0
  · subst h0
    have hn : new = [] := List.eq_nil_of_length_eq_zero (by simpa using hm)
    subst hn
    rcases o with ⟨rfl, rfl, rfl⟩ | ⟨b, g, c, q1, q2, q3, rfl, q4⟩
    · exact ⟨.nils, h, rfl, .inl ⟨rfl, rfl, rfl⟩, Nat.le_refl _, fun _ _ _ => rfl⟩
    · exact ⟨_, h, rfl, by rw [List.append_nil]; exact .inr ⟨b, g, c, q1, q2, q3, rfl, q4⟩, Nat.le_refl _, fun _ _ _ => rfl⟩
  · have hne : (m == 0) = false := by simp [h0]
    rcases o with ⟨rfl, rfl, rfl⟩ | ⟨b, g, c, q1, q2, q3, rfl, q5, q4⟩
    · simp only [Nat.zero_add] at fit hle ⊢
      refine ⟨.sl ⟨h.n, 0, 0⟩ m (.op sz), h.new (.cells 0 e new 0 false), ?_, .inr ⟨h.n, 0, .op sz, hlo, by simp, h.get_new _, rfl, hm, .inl rfl⟩, by simp, fun b hb _ => h.get_new_ne b _ (by omega)⟩
      simp [hne, fit, hle, h1, h0]
    · rcases q4 with rfl | rfl
      · refine ⟨.sl ⟨b, g + 1, 0⟩ (n + m) (.op sz), h.set b (.cells (g + 1) e (cs ++ new) 0 false), ?_, .inr ⟨b, g + 1, .op sz, q1, q2, h.get_set b _, rfl, by rw [List.length_append, q5, hm, Nat.add_mul], .inl rfl⟩, Nat.le_refl _, fun b' hb' hk => ?_⟩
        · simp [hne, fit, hle, h1, h0, q3, q5]
        · have : b' ≠ b := by
            rintro rfl
            exact hk rfl
          exact h.get_set_ne b b' _ this
      · have hld : h.ldn ⟨b, g, 0⟩ (n * sz) = some cs := by
          unfold H.ldn H.row
          simp only [q3, BEq.rfl, Bool.not_false, Bool.true_or, Bool.and_self, if_true]
          rw [← q5]
          exact cut_all _
        refine ⟨.sl ⟨h.n, 0, 0⟩ (n + m) (.op sz), h.new (.cells 0 e (cs ++ new) 0 false), ?_, .inr ⟨h.n, 0, .op sz, hlo, by simp, h.get_new _, rfl, by rw [List.length_append, q5, hm, Nat.add_mul], .inl rfl⟩, by simp, fun b hb _ => h.get_new_ne b _ (by omega)⟩
        have : n < n + m := by omega
        simp [hne, fit, hle, h1, h0, hld, this]
theorem RowG.bd {e sz lo n : Nat} {h : H} {v : AV} {cs : List AV} (o : RowG e sz lo h v cs n) : (blk v = 0 ∨ lo < blk v) ∧ blk v ≤ h.n := by
  rcases o with ⟨rfl, _⟩ | ⟨b, g, _, h1, h2, _, rfl, _⟩
  · exact ⟨.inl rfl, Nat.zero_le _⟩
  · exact ⟨.inr (Nat.succ_le_succ h1), h2⟩
theorem RowG.fr {e sz lo n : Nat} {h h' : H} {v : AV} {cs : List AV} (o : RowG e sz lo h v cs n) {S : Nat → Prop} (x : Fr S h h') (hs : blk v = 0 ∨ ¬ S (blk v)) : RowG e sz lo h' v cs n := by
  refine o.imp id ?_
  rintro ⟨b, g, c, h1, h2, h3, rfl, h4⟩
  have := x.1
  exact ⟨b, g, c, h1, by omega, by rw [x.2 b h2 (hs.resolve_left (by simp [blk_sl]))]; exact h3, rfl, h4⟩
theorem RowG.mono {e sz lo lo' n : Nat} {h : H} {v : AV} {cs : List AV} (o : RowG e sz lo h v cs n) (hl : lo' ≤ lo) : RowG e sz lo' h v cs n := by
  refine o.imp id ?_
  rintro ⟨b, g, c, h1, h2⟩
  exact ⟨b, g, c, by omega, h2⟩
theorem RowG.src {e sz lo n : Nat} {h : H} {v : AV} {cs : List AV} (o : RowG e sz lo h v cs n) : srcCells h sz v = some (n, cs) := by
  rcases o with ⟨rfl, rfl, rfl⟩ | ⟨b, g, c, h1, h2, h3, rfl, h4, _⟩
  · rfl
  · have hld : h.ldn ⟨b, g, 0⟩ (n * sz) = some cs := by
      unfold H.ldn H.row
      simp only [h3, BEq.rfl, Bool.not_false, Bool.true_or, Bool.and_self, if_true]
      rw [← h4]
      exact cut_all _
    simp only [srcCells, hld, Option.map_some]

/-- An entry in memory: its time, its chain's value, what it reads. -/
structure Ent where
  t : Nat
  z : AV
  ps : List (AV × List UInt8)
def Ent.cells (e : Ent) : List AV := [.int .u64 e.t, e.z]
def Ent.tell (e : Ent) : Rec := (e.t, says e.ps)
def rowE (xs : List Ent) : List AV := (xs.map Ent.cells).flatten
def recsE (xs : List Ent) : List Rec := xs.map Ent.tell
theorem rowE_app (xs ys : List Ent) : rowE (xs ++ ys) = rowE xs ++ rowE ys := by simp [rowE]

/-- A row of entries as it reads. -/
structure Es (h : H) (v : AV) (xs : List Ent) : Prop where
  row : (v = .nils ∧ xs = []) ∨ ∃ a c, v = .sl a xs.length c ∧ a.b < h.n ∧ h.ldn a (xs.length * 2) = some (rowE xs)
  el : ∀ e ∈ xs, Ch h e.z e.ps ∧ e.t < 2 ^ 64
  cap : ∀ a m c, v = .sl a m c → (∃ k, c = .ex k ∧ m ≤ k) ∨ c = .op 2
theorem Es.ext {h h' : H} {v : AV} {xs : List Ent} (c : Es h v xs) (hx : Ext h h') : Es h' v xs :=
  ⟨c.row.imp id (fun ⟨a, q, h1, h2, h3⟩ => ⟨a, q, h1, Nat.lt_of_lt_of_le h2 hx.1, by rw [ldn_same (hx.2 _ h2)]; exact h3⟩), fun e he => ⟨(c.el e he).1.ext hx, (c.el e he).2⟩, c.cap⟩
theorem Es.fr {h h' : H} {v : AV} {xs : List Ent} (c : Es h v xs) {S : Nat → Prop} (x : Fr S h h') (hs : ∀ s, S s → s = 0 ∨ h.n < s) : Es h' v xs := c.ext (x.ext hs)
theorem Es.bq {h : H} {v : AV} {xs : List Ent} (c : Es h v xs) : blk v ≤ h.n := by
  rcases c.row with ⟨rfl, _⟩ | ⟨a, q, rfl, h2, _⟩
  · exact Nat.zero_le _
  · exact h2
theorem Es.parts {h : H} {v : AV} {xs : List Ent} (c : Es h v xs) : v.cells = [v] ∧ v.one = true ∧ isStrV v = false := by rcases c.row with ⟨rfl, _⟩ | ⟨_, _, rfl, _, _⟩ <;> exact ⟨rfl, rfl, rfl⟩
theorem Es.lenS {h : H} {v : AV} {xs : List Ent} (c : Es h v xs) : (v = .nils ∧ xs.length = 0) ∨ ∃ a q, v = .sl a xs.length q := by
  rcases c.row with ⟨rfl, rfl⟩ | ⟨a, q, rfl, _⟩
  · exact .inl ⟨rfl, rfl⟩
  · exact .inr ⟨a, q, rfl⟩
theorem Es.nil0 {h : H} : Es h .nils [] := ⟨.inl ⟨rfl, rfl⟩, fun e he => by simp at he, fun a m c e => by cases e⟩

theorem rowE_at : ∀ {xs : List Ent} {i : Nat} {e : Ent}, xs[i]? = some e → ((rowE xs).drop (i * 2)).take 2 = e.cells
  | x :: xs, 0, e, h => by simp only [List.getElem?_cons_zero, Option.some.injEq] at h; subst h; simp [rowE, Ent.cells]
  | x :: xs, i + 1, e, h => by
    have := rowE_at (xs := xs) (i := i) (e := e) (by simpa using h)
    rw [show (i + 1) * 2 = i * 2 + 2 by omega]
    simp only [rowE, List.map_cons, List.flatten_cons, Ent.cells, List.cons_append, List.nil_append, List.drop_succ_cons] at this ⊢
    exact this

/-- An element of the row. -/
theorem Es.at {h : H} {v : AV} {xs : List Ent} (c : Es h v xs) {i : Nat} {e : Ent} (hp : xs[i]? = some e) : ∃ a q, v = .sl a xs.length q ∧ h.ldg ⟨a.b, a.g, a.o + i * 2⟩ (some 2) = some (.agg [.int .u64 e.t, e.z]) := by
  have hi : i < xs.length := (List.getElem?_eq_some_iff.1 hp).1
  rcases c.row with ⟨_, rfl⟩ | ⟨a, q, rfl, _, h3⟩
  · simp at hp
  · refine ⟨a, q, rfl, ?_⟩
    have h4 := ldn_take (ldn_drop h3 (n := i * 2) (by omega)) (n := 2) (by omega)
    rw [rowE_at hp] at h4
    simp [H.ldg, h4, Ent.cells]

/-- A row of entries of its own, their chains too. -/
structure OwE (lo : Nat) (h : H) (v : AV) (xs : List Ent) : Prop where
  row : RowG 70 2 lo h v (rowE xs) xs.length
  el : ∀ e ∈ xs, OwnK lo h e.z e.ps ∧ e.t < 2 ^ 64
theorem OwE.es {lo : Nat} {h : H} {v : AV} {xs : List Ent} (o : OwE lo h v xs) : Es h v xs := by
  refine ⟨?_, fun e he => ⟨(o.el e he).1.ch, (o.el e he).2⟩, ?_⟩
  · rcases o.row with ⟨h1, _, h3⟩ | ⟨b, g, c, h1, h2, h3, h4, h5, _⟩
    · exact .inl ⟨h1, List.length_eq_zero_iff.1 h3⟩
    · refine .inr ⟨⟨b, g, 0⟩, c, h4, h2, ?_⟩
      unfold H.ldn H.row
      simp only [h3, BEq.rfl, Bool.not_false, Bool.true_or, Bool.and_self, if_true]
      rw [← h5]
      exact cut_all _
  · rintro a m c e
    rcases o.row with ⟨h1, _⟩ | ⟨b, g, q, _, _, _, h4, _, h5⟩
    · rw [h1] at e; cases e
    · rw [h4] at e; simp only [AV.sl.injEq] at e
      obtain ⟨_, rfl, rfl⟩ := e
      rcases h5 with h5 | h5
      · exact .inr h5
      · exact .inl ⟨_, h5, Nat.le_refl _⟩
theorem OwE.parts {lo : Nat} {h : H} {v : AV} {xs : List Ent} (o : OwE lo h v xs) : v.cells = [v] ∧ v.one = true ∧ isStrV v = false := o.es.parts
theorem OwE.bq {lo : Nat} {h : H} {v : AV} {xs : List Ent} (o : OwE lo h v xs) : Dj (blk v = 0 ∨ lo < blk v) ∧ blk v ≤ h.n := o.row.bd
theorem OwE.fr {lo : Nat} {h h' : H} {v : AV} {xs : List Ent} (o : OwE lo h v xs) {S : Nat → Prop} (x : Fr S h h') (hs : ∀ s, S s → s ≤ lo ∨ h.n < s) : OwE lo h' v xs := by
  have hb := o.row.bd
  refine ⟨o.row.fr x ?_, fun e he => ⟨(o.el e he).1.fr x hs, (o.el e he).2⟩⟩
  by_cases h0 : blk v = 0
  · exact .inl h0
  · exact .inr (fun e => by have := hs _ e; omega)
theorem OwE.mono {lo lo' : Nat} {h : H} {v : AV} {xs : List Ent} (o : OwE lo h v xs) (hl : lo' ≤ lo) : OwE lo' h v xs := ⟨o.row.mono hl, fun e he => ⟨(o.el e he).1.mono hl, (o.el e he).2⟩⟩
theorem OwE.nil0 {lo : Nat} {h : H} : OwE lo h .nils [] := ⟨.inl ⟨rfl, rfl, rfl⟩, fun e he => by simp at he⟩

/-- Only a row of entries changes: chains stand. -/
theorem OwnK.keepT {lo b g : Nat} {c : List AV} {h h' : H} {v : AV} {ys : List (AV × List UInt8)} (o : OwnK lo h v ys) (x : Fr (fun s => s = b + 1) h h') (hg : h.get b = some (.cells g 70 c 0 false)) : OwnK lo h' v ys := by
  have hn := x.1
  have key : ∀ k g' e' c', e' ≠ 70 → k < h.n → h.get k = some (.cells g' e' c' 0 false) → h'.get k = h.get k := fun k g' e' c' he hk hgk => x.2 k hk (fun e => by
    have : k = b := by omega
    subst this
    rw [hg] at hgk
    simp only [Option.some.injEq, Blk.cells.injEq] at hgk
    exact he hgk.2.1.symm)
  refine ⟨?_, fun p hp => ?_⟩
  · refine o.row.imp id ?_
    rintro ⟨k, g', c', h1, h2, h3, h4⟩
    exact ⟨k, g', c', h1, by omega, by rw [key k _ _ _ (by decide) h2 h3]; exact h3, h4⟩
  · exact (o.el p hp).keep hn (fun k g' c' h1 h2 h3 => key k _ _ _ (by decide) h2 h3)

/-- One entry more. -/
theorem app70_one {lo lo2 hi2 : Nat} {h : H} {b t : Nat} {v z : AV} {ps : List (AV × List UInt8)} {xs : List Ent} (p : Pt h b (.cells 0 70 [.int .u64 t, z] 0 false)) (o : OwE lo h v xs) (hz : OwI lo2 hi2 h z ps) (ht : t < 2 ^ 64) (hlo : lo ≤ h.n) (hl2 : lo ≤ lo2) (hn : (xs.length + 1) * 32 ≤ 200000000000000) :
    ∃ v' h', append h 70 2 32 v (.sl ⟨b, 0, 0⟩ 1 (.ex 1)) = some (.val v' h') ∧ OwE lo h' v' (xs ++ [⟨t, z, ps⟩]) ∧ Fr (fun s => s = blk v) h h' := by
  have hmx : 200000000000000 = maxRow := rfl
  have hld : h.ldn ⟨b, 0, 0⟩ (1 * 2) = some [.int .u64 t, z] := by
    unfold H.ldn H.row
    simp only [p.2, BEq.rfl, Bool.not_false, Bool.true_or, Bool.and_self, if_true]
    rfl
  have fit : fits (xs.length + 1) 32 = true := by simp only [fits, Bool.and_eq_true, decide_eq_true_eq]; omega
  obtain ⟨v', h', e, r, x⟩ := o.row.app (bytes := 32) (w := .sl ⟨b, 0, 0⟩ 1 (.ex 1)) (m := 1) (new := [.int .u64 t, z]) hlo (by simp only [srcCells, hld, Option.map_some]) rfl (by omega) (ones_cons rfl (ones_cons hz.parts.2.1 ones_nil)) fit (by omega)
  have hall : ∀ {q : AV} {qs : List (AV × List UInt8)} {lo' : Nat}, OwnK lo' h q qs → OwnK lo' h' q qs := by
    intro q qs lo' oq
    rcases o.row with ⟨e1, _⟩ | ⟨b', g, c, h1, h2, h3, e1, _⟩
    · subst e1
      exact oq.fr x (fun s hs => .inl (by rw [hs]; exact Nat.zero_le _))
    · subst e1
      exact oq.keepT (b := b') x h3
  refine ⟨v', h', e, ⟨by rw [rowE_app, List.length_append]; exact r, fun q hq => ?_⟩, x⟩
  rcases List.mem_append.1 hq with hq | hq
  · exact ⟨hall (o.el q hq).1, (o.el q hq).2⟩
  · simp only [List.mem_cons, List.not_mem_nil, or_false] at hq
    subst hq
    exact ⟨(hall hz.k).mono hl2, ht⟩
end Go.Det

/- Bundles: the walks. -/
set_option linter.unusedVariables false
set_option linter.unusedSimpArgs false
set_option linter.unusedSectionVars false
namespace Go.Det
open Go.Proofs
attribute [local irreducible] Wp Wo Wd iop ev slots quiets wanted put

/-- Entries' rows are not too long. -/
def FewE (xs : List Ent) : Prop := (xs.length + 1) * 32 ≤ 200000000000000 ∧ ∀ e ∈ xs, e.ps.length * 24 ≤ 140737488355328 ∧ ∀ p ∈ e.ps, p.2.length ≤ maxRow
theorem owneI {h : H} {v : AV} {xs : List (AV × List UInt8)} (hc : Ch h v xs) (hx : ∀ p ∈ xs, p.2.length ≤ maxRow) (hlen : xs.length * 24 ≤ 140737488355328) (t : Nat) : ∃ r h', Runs TF 40 [entV t v] h r h' ∧ ∃ v' ys, r = entV t v' ∧ Ext h h' ∧ OwI h.n h'.n h' v' ys ∧ says ys = says xs := by
  obtain ⟨r, h', c, v', ys, e, x, o, q⟩ := owne_run hc hx hlen t
  exact ⟨r, h', c, v', ys, e, x, OwI.of o.k, q⟩

theorem recs_snoc {xs ys : List Ent} {i : Nat} {e : Ent} {z : AV} {ps : List (AV × List UInt8)} (h : recsE ys = recsE (xs.take i)) (hp : xs[i]? = some e) (hs : says ps = says e.ps) : recsE (ys ++ [⟨e.t, z, ps⟩]) = recsE (xs.take (i + 1)) := by
  rw [take_step hp]
  simp only [recsE, List.map_append, List.map_cons, List.map_nil, Ent.tell] at h ⊢
  rw [h, hs]
theorem recs_len {xs : List Ent} : (recsE xs).length = xs.length := by simp [recsE]

set_option maxHeartbeats 8000000 in
theorem own63_loop {h0 : H} {v : AV} {xs : List Ent} (hc : Es h0 v xs) (hf : FewE xs) :
    ∀ (k i : Nat), i + k = xs.length → ∀ (h : H) (lV : AV) (ys : List Ent) (ts : List AV), Ext h0 h → OwE h0.n h lV ys → recsE ys = recsE (xs.take i) → ys.length = i → ts.length = 20 → getL ts 0 = some v → getL ts 3 = some lV → getL ts 4 = some (.int .i64 i) →
      ∀ (Q : Ex → St → Prop), (∀ ts' h' lV ys, Ext h0 h' → OwE h0.n h' lV ys → recsE ys = recsE xs → ts'.length = 20 → getL ts' 3 = some lV → Q (.exit 0) (ts', h')) → Wp TF (.loop l63_1) (ts, h) Q := by
  have hmx : 200000000000000 = maxRow := rfl
  obtain ⟨hf1, hf2⟩ := hf
  intro k
  induction k with
  | zero =>
    intro i hi h lV ys ts hE hO hsy hyl t0 tv tl ti Q hQ
    obtain rfl : i = xs.length := by omega
    rw [List.take_length] at hsy
    have hc' := hc.ext hE
    refine Wp.loop ?_
    rw [laid_eq t0 [(0, v), (3, lV), (4, .int .i64 xs.length)] (by simp [tv, tl, ti])]
    have m1 := hc.bq
    have k2 := hc.parts
    have m3 := hO.bq
    have k4 := hO.parts
    have m5 := hc'.bq
    have k6 := hc'.parts
    have m7 := hE.1
    refine Wp.seq ?_
    refine Wp.seq ?_
    refine Wp.region ?_
    refine Wo.pre 2 (by kernel_rfl) ?_
    refine Wo.val (.int .i64 (List.length (xs) : Nat)) h (by kernel_rfl) (iop_lenS (v := v) (by kernel_rfl) hc'.lenS) ?_
    refine Wo.cmp (op := .lss) (x := IX.t 5) (y := IX.t 7) (k := IntKind.i64) (a := ↑xs.length) (b := ↑xs.length) ((↑xs.length : Int) < (↑xs.length : Int)) (by kernel_rfl) (by kernel_rfl) (by kernel_rfl) (by kernel_rfl) (by simp) (by kernel_rfl) (fun q8 => ?_) (fun q8 => ?_)
    · skip
      (exfalso; omega)
    · skip
      refine Wo.nil ?_
      refine Wp.cond false (by kernel_rfl) ?_
      refine Wp.exit ?_
      exact hQ _ _ lV ys hE hO hsy (by kernel_rfl) (by kernel_rfl)
  | succ k ih =>
    intro i hi h lV ys ts hE hO hsy hyl t0 tv tl ti Q hQ
    have hlt : i < xs.length := by omega
    obtain ⟨e, hp⟩ : ∃ e, xs[i]? = some e := ⟨xs[i], List.getElem?_eq_getElem hlt⟩
    have hmem := List.mem_of_getElem? hp
    obtain ⟨f1, f2⟩ := hf2 e hmem
    have het := (hc.el e hmem).2
    have hB : Ch h e.z e.ps := (hc.el e hmem).1.ext hE
    obtain ⟨a, q, rfl, hld⟩ := (hc.ext hE).at hp
    have n0 := hE.1
    refine Wp.loop ?_
    rw [laid_eq t0 [(0, .sl a xs.length q), (3, lV), (4, .int .i64 i)] (by simp [tv, tl, ti])]
    have m1 := hO.bq
    have k2 := hO.parts
    have m3 := hB.bq
    have k4 := hB.parts
    have m5 := hc.bq
    have k6 := hc.parts
    have m7 := hE.1
    refine Wp.seq ?_
    refine Wp.seq ?_
    refine Wp.region ?_
    refine Wo.pre 3 (by kernel_rfl) ?_
    refine Wo.cmp (op := .lss) (x := IX.t 5) (y := IX.t 7) (k := IntKind.i64) (a := ↑i) (b := ↑xs.length) ((↑i : Int) < (↑xs.length : Int)) (by kernel_rfl) (by kernel_rfl) (by kernel_rfl) (by kernel_rfl) (by simp) (by kernel_rfl) (fun q8 => ?_) (fun q8 => ?_)
    · skip
      refine Wo.nil ?_
      refine Wp.cond true (by kernel_rfl) ?_
      refine Wp.skip ?_
      refine Wp.seq ?_
      refine Wp.block ?_
      refine Wp.region ?_
      refine Wo.pre 3 (by kernel_rfl) ?_
      refine Wo.val (.ptr ⟨(a : AA).b, (a : AA).g, (a : AA).o + i * 2⟩) h (by kernel_rfl) (iop_iaN (a := a) (n := xs.length) (c := q) (ie := (↑i : Int)) (i := i) (by kernel_rfl) (by kernel_rfl) rfl (by first | omega | (simp; omega))) ?_
      refine Wo.val (AV.agg [AV.int IntKind.u64 ↑e.t, e.z]) h (by kernel_rfl) (iop_ld (a := { b := a.b, g := a.g, o := a.o + i * 2 }) (by kernel_rfl) hld) ?_
      obtain ⟨r9, H10, c11, v12, ys13, rfl, X15, q16, q17⟩ := owneI hB f2 f1 (e.t)
      have m18 := X15.1
      have m19 := q16.bq
      have k20 := q16.parts
      refine Wo.call (by kernel_rfl) (by kernel_rfl) c11 ?_
      clear c11
      obtain ⟨H21, e21, P21, X21, n21⟩ := bsl_new H10 70 [AV.int IntKind.u64 ↑e.t, v12] (ones_cons rfl (ones_cons k20.2.1 ones_nil))
      refine Wo.val (.sl ⟨H.n H10, 0, 0⟩ 1 (.ex 1)) H21 (by kernel_rfl) (e21 (fill_cons (v := AV.agg [AV.int IntKind.u64 ↑e.t, v12]) (vs := [AV.int IntKind.u64 ↑e.t, v12]) (by kernel_rfl) rfl (by kernel_rfl) rfl)) ?_
      clear e21
      have m22 := X21.1
      have F23 := (hO.fr (X15.fr.trans0 X21) (fun _ e => e.elim))
      have F24 := (q16.fr X21 (fun _ e => e.elim))
      obtain ⟨v25, H26, a27, q28, X29⟩ := app70_one (lo := h0.n) (lo2 := h.n) (hi2 := H10.n) (b := H10.n) (t := e.t) P21 F23 F24 het (by first | omega | (simp; omega) | (simp; done) | assumption) n0 (by first | omega | (simp; omega) | (simp; done) | assumption)
      refine Wo.val _ _ (by kernel_rfl) (iop_appG (v := lV) (w := AV.sl { b := H10.n, g := 0, o := 0 } 1 (Cp.ex 1)) (by kernel_rfl) (by kernel_rfl) rfl a27) ?_
      have m30 := q28.bq
      have k31 := q28.parts
      have m32 := X29.1
      refine Wo.pre 1 (by kernel_rfl) ?_
      refine Wo.nil ?_
      refine Wp.region ?_
      refine Wo.pre 1 (by kernel_rfl) ?_
      refine Wo.val (.int IntKind.i64 ((↑i : Int) + (1 : Int))) H26 (by kernel_rfl) (iop_arith (op := .add) (a := ↑i) (b := 1) (by kernel_rfl) (by kernel_rfl) (by simp) (bin_add IntKind.i64 (by simp only [min_i64]; omega) (by simp only [max_i64]; omega))) ?_
      refine Wo.pre 1 (by kernel_rfl) ?_
      refine Wo.nil ?_
      exact ih (i + 1) (by omega) _ _ _ _ ((((hE.fr.trans0 X15.fr).trans0 X21).transL X29).ext (by have d0 := m1.1.e; intro s hs; first | omega | (dsimp only at hs; omega) | (simp only [blk_nils, blk_sl] at hs ⊢; omega))) q28 (by exact recs_snoc hsy hp (by with_reducible assumption)) (by simp [hyl]) (by kernel_rfl) (by kernel_rfl) (by kernel_rfl) (by kernel_rfl) Q hQ
    · skip
      (exfalso; omega)

set_option maxHeartbeats 8000000 in
theorem own63_run {h : H} {v : AV} {xs : List Ent} (hc : Es h v xs) (hf : FewE xs) : ∃ r h', Runs TF 63 [v] h r h' ∧ ∃ ys, Ext h h' ∧ OwE h.n h' r ys ∧ recsE ys = recsE xs := by
  refine Runs.ofP f63 rfl ?_
  refine Wp.seq (Wp.region (Wo.pre 1 (by kernel_rfl) (Wo.nil ?_)))
  refine Wp.seq (Wp.region (Wo.pre 1 (by kernel_rfl) (Wo.nil ?_)))
  refine Wp.seq (Wp.seq (Wp.region (Wo.pre 1 (by kernel_rfl) (Wo.nil (Wp.block ?_)))))
  refine own63_loop hc hf xs.length 0 (by omega) h .nils [] _ (Ext.refl _) OwE.nil0 rfl rfl (by kernel_rfl) (by kernel_rfl) (by kernel_rfl) (by kernel_rfl) _ ?_
  intro ts' h' lV ys hE hO hs t0 t3
  show Wp TF _ _ _
  rw [laid_eq t0 [(3, lV)] (by simp [t3])]
  have m1 := hc.bq
  have k2 := hc.parts
  have m3 := hO.bq
  have k4 := hO.parts
  have m5 := hE.1
  refine Wp.seq ?_
  refine Wp.region ?_
  refine Wo.pre 2 (by kernel_rfl) ?_
  refine Wo.nil ?_
  refine Wp.ret ?_
  refine ⟨.inr rfl, (lV), (ret_one (res_tmp (by kernel_rfl) res_nil)), ?_⟩
  dsimp only
  exact ⟨ys, hE, hO, hs⟩

/-- One record more in a bundle: three bytes of length and the record. -/
theorem wvec3 {h : H} {x y : AV} {lx ly : List UInt8} (hx : Bs h x lx) (hy : Bs h y ly) (hl : lx.length + 16777224 ≤ maxRow) (hl2 : ly.length ≤ 3000) :
    ∃ r h', Runs TF 21 [x, y, .int .i64 3] h r h' ∧ ∃ z, r = .tup [z, .int .i64 0] ∧ Ext h h' ∧ Ow h.n h' z (lx ++ certB ly) := by
  have hmx : 200000000000000 = maxRow := rfl
  obtain ⟨r, h', c, z, e, x, o⟩ := wvec_any hx hy 3 hl (by omega)
  have he : vecE ly.length 3 = 0 := vecE_small (s := 3) (by omega) (.inr rfl)
  rw [he] at e o
  rw [if_pos rfl] at o
  exact ⟨r, h', c, z, e, x, by rw [certB, ← List.append_assoc]; exact o⟩
theorem rvec3 {h : H} {x y : AV} {lx ly : List UInt8} (hx : Bs h x lx) (hy : Bs h y ly) (hl : lx.length + 16777224 ≤ maxRow) (hl2 : ly.length ≤ 3000) :
    ∃ r h', Runs TF 22 [x, y, .int .i64 3] h r h' ∧ ∃ z, r = .tup [z, .int .i64 0] ∧ Ext h h' ∧ Ow h.n h' z (lx ++ certB ly) := by
  have hmx : 200000000000000 = maxRow := rfl
  obtain ⟨r, h', c, z, e, x, o⟩ := rvec_run hx hy 3 hl (by omega)
  have he : vecE ly.length 3 = 0 := vecE_small (s := 3) (by omega) (.inr rfl)
  rw [he] at e o
  rw [if_pos rfl] at o
  exact ⟨r, h', c, z, e, x, by rw [certB, ← List.append_assoc]; exact o⟩
theorem bytesR_snoc (rs : List Rec) (r : Rec) : bytesR (rs ++ [r]) = bytesR rs ++ certB (recS r.1 r.2) := by simp [bytesR]
theorem bytesR_len : ∀ (rs : List Rec), (∀ r ∈ rs, mayS r.2 = true) → (bytesR rs).length ≤ 2503 * rs.length
  | [], _ => Nat.zero_le _
  | (t, cs) :: rs, h => by
    have h1 := bytesR_len rs (fun r hr => h r (by simp [hr]))
    have h2 : (recS t cs).length ≤ 2500 ∧ 8 ≤ (recS t cs).length := recS_len (h (t, cs) (by simp))
    have e : bytesR ((t, cs) :: rs) = certB (recS t cs) ++ bytesR rs := by simp [bytesR]
    rw [e, List.length_append, List.length_cons]
    have : (certB (recS t cs)).length = 3 + (recS t cs).length := by simp [certB, digits_len]
    omega
theorem recX_S {t : Nat} {ps : List (AV × List UInt8)} (h : mayE ps = true) : recX t ps = recS t (says ps) := by rw [recX, if_pos h, list_says]; rfl

theorem take_may {xs : List Ent} {i : Nat} {e : Ent} (hm : ∀ r ∈ recsE (xs.take i), mayS r.2 = true) (hp : xs[i]? = some e) (he : mayE e.ps = true) : ∀ r ∈ recsE (xs.take (i + 1)), mayS r.2 = true := by
  rw [take_step hp]
  intro r hr
  simp only [recsE, List.map_append, List.map_cons, List.map_nil, List.mem_append, List.mem_cons, List.not_mem_nil, or_false] at hr
  rcases hr with hr | rfl
  · exact hm r hr
  · show mayS (says e.ps) = true
    rw [← may_says]; exact he
theorem take_bytes {xs : List Ent} {i : Nat} {e : Ent} (hp : xs[i]? = some e) (he : mayE e.ps = true) : bytesR (recsE (xs.take i)) ++ certB (recX e.t e.ps) = bytesR (recsE (xs.take (i + 1))) := by
  rw [take_step hp, recX_S he]
  simp only [recsE, List.map_append, List.map_cons, List.map_nil]
  rw [bytesR_snoc]
  rfl
theorem take_len {xs : List Ent} {i : Nat} (hx : xs.length ≤ 16) (hm : ∀ r ∈ recsE (xs.take i), mayS r.2 = true) : (bytesR (recsE (xs.take i))).length ≤ 50000 := by
  have h1 := bytesR_len _ hm
  have h2 : (recsE (xs.take i)).length ≤ 16 := by rw [recs_len, List.length_take]; omega
  omega
theorem bad_may {xs : List Ent} {i : Nat} {e : Ent} (hp : xs[i]? = some e) (he : ¬ mayE e.ps = true) : mayR (recsE xs) = false := by
  have : ¬ mayR (recsE xs) = true := by
    intro h
    have h3 := (mayR_iff.1 h).2.2 e.tell (List.mem_map_of_mem (List.mem_of_getElem? hp))
    exact he (by rw [may_says]; exact h3)
  simpa using this

attribute [local irreducible] recX leafE mayE
set_option maxHeartbeats 8000000 in
theorem put64_loop {h0 : H} {v : AV} {xs : List Ent} (hc : Es h0 v xs) (hx : xs.length ≤ 16) (hf : FewE xs) :
    ∀ (k i : Nat), i + k = xs.length → ∀ (h : H) (bV : AV) (ts : List AV), Ext h0 h → Ow h0.n h bV (bytesR (recsE (xs.take i))) → (∀ r ∈ recsE (xs.take i), mayS r.2 = true) → ts.length = 40 → getL ts 4 = some bV → getL ts 17 = some v → getL ts 18 = some (.int .i64 xs.length) → getL ts 19 = some (.int .i64 i) →
      ∀ (Q : Ex → St → Prop), (∀ ts' h' bV, Ext h0 h' → Ow h0.n h' bV (bytesR (recsE xs)) → (∀ r ∈ recsE xs, mayS r.2 = true) → ts'.length = 40 → getL ts' 4 = some bV → Q (.exit 0) (ts', h')) → (∀ ts' h', mayR (recsE xs) = false → Ext h0 h' → getL ts' 2 = some .nils → getL ts' 3 = some (.int .i64 1) → Q .ret (ts', h')) → Wp TF (.loop l64_1) (ts, h) Q := by
  have hmx : 200000000000000 = maxRow := rfl
  obtain ⟨hf1, hf2⟩ := hf
  intro k
  induction k with
  | zero =>
    intro i hi h bV ts hE hO hm t0 tb tv tl ti Q hQ hQ'
    obtain rfl : i = xs.length := by omega
    rw [List.take_length] at hO hm
    refine Wp.loop ?_
    rw [laid_eq t0 [(4, bV), (17, v), (18, .int .i64 xs.length), (19, .int .i64 xs.length)] (by simp [tb, tv, tl, ti])]
    have m1 := hc.bq
    have k2 := hc.parts
    have m3 := hO.bq
    have k4 := hO.parts
    have m5 := hE.1
    refine Wp.seq ?_
    refine Wp.region ?_
    refine Wo.cmp (op := .lss) (x := IX.t 19) (y := IX.t 18) (k := IntKind.i64) (a := ↑xs.length) (b := ↑xs.length) ((↑xs.length : Int) < (↑xs.length : Int)) (by kernel_rfl) (by kernel_rfl) (by kernel_rfl) (by kernel_rfl) (by simp) (by kernel_rfl) (fun q6 => ?_) (fun q6 => ?_)
    · skip
      (exfalso; omega)
    · skip
      refine Wo.nil ?_
      refine Wp.seq ?_
      refine Wp.cond false (by kernel_rfl) ?_
      refine Wp.exit ?_
      exact hQ _ _ bV hE hO hm (by kernel_rfl) (by kernel_rfl)
  | succ k ih =>
    intro i hi h bV ts hE hO hm t0 tb tv tl ti Q hQ hQ'
    have hlt : i < xs.length := by omega
    obtain ⟨⟨et, ez, ep⟩, hp⟩ : ∃ e, xs[i]? = some e := ⟨xs[i], List.getElem?_eq_getElem hlt⟩
    have hmem := List.mem_of_getElem? hp
    obtain ⟨f1, f2⟩ := hf2 _ hmem
    have het : et < 2 ^ 64 := (hc.el _ hmem).2
    have hB : Ch h ez ep := (hc.el _ hmem).1.ext hE
    dsimp only at f1 f2
    have hl := take_len (i := i) hx hm
    have hr := made_rec ep et
    obtain ⟨a, q, rfl, hld⟩ := (hc.ext hE).at hp
    dsimp only at hld
    have n0 := hE.1
    refine Wp.loop ?_
    rw [laid_eq t0 [(4, bV), (17, .sl a xs.length q), (18, .int .i64 xs.length), (19, .int .i64 i)] (by simp [tb, tv, tl, ti])]
    have m1 := hO.bq
    have k2 := hO.parts
    have m3 := hB.bq
    have k4 := hB.parts
    have m5 := hc.bq
    have k6 := hc.parts
    have m7 := hE.1
    refine Wp.seq ?_
    refine Wp.region ?_
    refine Wo.cmp (op := .lss) (x := IX.t 19) (y := IX.t 18) (k := IntKind.i64) (a := ↑i) (b := ↑xs.length) ((↑i : Int) < (↑xs.length : Int)) (by kernel_rfl) (by kernel_rfl) (by kernel_rfl) (by kernel_rfl) (by simp) (by kernel_rfl) (fun q8 => ?_) (fun q8 => ?_)
    · skip
      refine Wo.nil ?_
      refine Wp.seq ?_
      refine Wp.cond true (by kernel_rfl) ?_
      refine Wp.skip ?_
      refine Wp.seq ?_
      refine Wp.block ?_
      refine Wp.seq ?_
      refine Wp.region ?_
      refine Wo.val (.ptr ⟨(a : AA).b, (a : AA).g, (a : AA).o + i * 2⟩) h (by kernel_rfl) (iop_iaN (a := a) (n := xs.length) (c := q) (ie := (↑i : Int)) (i := i) (by kernel_rfl) (by kernel_rfl) rfl (by first | omega | (simp; omega))) ?_
      refine Wo.val (AV.agg [AV.int IntKind.u64 ↑et, ez]) h (by kernel_rfl) (iop_ld (a := { b := a.b, g := a.g, o := a.o + i * 2 }) (by kernel_rfl) hld) ?_
      obtain ⟨H9, e9, P9, X9, n9⟩ := pt_new h 70 [AV.int IntKind.u64 0, AV.nils] (ones_cons rfl (ones_cons rfl ones_nil))
      refine Wo.val (.ptr ⟨H.n h, 0, 0⟩) H9 (by kernel_rfl) (e9 (v := AV.agg [AV.int IntKind.u64 0, AV.nils]) (by kernel_rfl) rfl) ?_
      clear e9
      have m10 := X9.1
      obtain ⟨H11, e11, P11, X11, n11⟩ := P9.st 0 [AV.int IntKind.u64 ↑et, ez] (by simp) (ones_cons rfl (ones_cons k4.2.1 ones_nil))
      refine Wo.val .undef H11 (by kernel_rfl) (iop_stP (a := { b := h.n, g := 0, o := 0 }) (v := AV.agg [AV.int IntKind.u64 ↑et, ez]) (vs := [AV.int IntKind.u64 ↑et, ez]) (by kernel_rfl) (by kernel_rfl) rfl rfl e11) ?_
      have m12 := X11.1
      replace P11 : Pt H11 h.n (Blk.cells 0 70 [AV.int IntKind.u64 ↑et, ez] 0 false) := P11
      refine Wo.nil ?_
      refine Wp.seq ?_
      refine Wp.region ?_
      refine Wo.val (AV.agg [AV.int IntKind.u64 ↑et, ez]) H11 (by kernel_rfl) (iop_ldP P11 (a := { b := h.n, g := 0, o := 0 }) (by kernel_rfl) rfl (by kernel_rfl)) ?_
      have F13 := (hB.fr (X9.transL X11) (by (first | omega | (intro s hs; omega) | (dsimp only; omega) | (intro s hs; dsimp only at hs; omega) | (simp only [blk_nils, blk_sl]; omega) | (intro s hs; simp only [blk_nils, blk_sl] at hs ⊢; omega) | (simp; done))))
      obtain ⟨r14, H15, c16, z17, rfl, X19, q20⟩ := record_run (t := et) F13 (by first | omega | (simp; omega) | (simp; done) | assumption) het
      have m21 := X19.1
      have m22 := q20.bq
      have k23 := q20.parts
      refine Wo.call (by kernel_rfl) (by kernel_rfl) c16 ?_
      clear c16
      refine Wo.pre 5 (by kernel_rfl) ?_
      refine Wo.nil ?_
      refine Wp.seq ?_
      refine Wp.seq ?_
      refine Wp.region ?_
      refine Wo.pre 1 (by kernel_rfl) ?_
      refine Wo.cmpN (op := .neq) (x := IX.t 28) (y := IX.c (AV.int IntKind.i64 0)) (k := IntKind.i64) (a := leafE ep) (b := 0) ((leafE ep : Int) = (0 : Int)) (by kernel_rfl) (by kernel_rfl) (by kernel_rfl) (by kernel_rfl) (by simp) (by kernel_rfl) (fun q24 => ?_) (fun q24 => ?_)
      · skip
        have m25 := P9.1
        have m26 := P11.1
        have m27 := F13.bq
        have k28 := F13.parts
        refine Wo.nil ?_
        refine Wp.cond false (by kernel_rfl) ?_
        refine Wp.skip ?_
        refine Wp.seq ?_
        refine Wp.region ?_
        refine Wo.pre 2 (by kernel_rfl) ?_
        have F29 := (hO.fr ((X9.transL X11).transR X19.fr) (by have d0 := m1.1.e; (first | omega | (intro s hs; omega) | (dsimp only; omega) | (intro s hs; dsimp only at hs; omega) | (simp only [blk_nils, blk_sl]; omega) | (intro s hs; simp only [blk_nils, blk_sl] at hs ⊢; omega) | (simp; done))))
        obtain ⟨r30, H31, c32, z33, rfl, X35, q36⟩ := wvec3 F29.bs q20.bs (by first | omega | (simp; omega) | (simp; done) | assumption) hr
        have m37 := X35.1
        have m38 := q36.bq
        have k39 := q36.parts
        refine Wo.call (by kernel_rfl) (by kernel_rfl) c32 ?_
        clear c32
        refine Wo.pre 5 (by kernel_rfl) ?_
        refine Wo.nil ?_
        refine Wp.seq ?_
        refine Wp.region ?_
        refine Wo.pre 1 (by kernel_rfl) ?_
        refine Wo.pre 1 (by kernel_rfl) ?_
        refine Wo.nil ?_
        refine Wp.cond false (by kernel_rfl) ?_
        refine Wp.skip ?_
        refine Wp.region ?_
        refine Wo.val (.int IntKind.i64 ((↑i : Int) + (1 : Int))) H31 (by kernel_rfl) (iop_arith (op := .add) (a := ↑i) (b := 1) (by kernel_rfl) (by kernel_rfl) (by simp) (bin_add IntKind.i64 (by simp only [min_i64]; omega) (by simp only [max_i64]; omega))) ?_
        refine Wo.pre 1 (by kernel_rfl) ?_
        refine Wo.nil ?_
        exact ih (i + 1) (by omega) _ _ _ (((((hE.fr.trans0 X9).transL X11).transR X19.fr).transR X35.fr).ext (by intro s hs; first | omega | (dsimp only at hs; omega) | (simp only [blk_nils, blk_sl] at hs ⊢; omega))) (by rw [← take_bytes hp (leafE_zero ‹leafE _ = 0›)]; exact (q36.mono (by omega))) (by exact take_may hm hp (leafE_zero ‹leafE _ = 0›)) (by kernel_rfl) (by kernel_rfl) (by kernel_rfl) (by kernel_rfl) (by kernel_rfl) Q hQ hQ'
      · skip
        have m40 := P9.1
        have m41 := P11.1
        have m42 := F13.bq
        have k43 := F13.parts
        refine Wo.nil ?_
        refine Wp.cond true (by kernel_rfl) ?_
        refine Wp.seq ?_
        refine Wp.region ?_
        refine Wo.pre 2 (by kernel_rfl) ?_
        refine Wo.nil ?_
        refine Wp.ret ?_
        exact hQ' _ _ (by exact bad_may hp (fun hh => ‹¬ leafE _ = 0› (leafE_ok hh))) ((((hE.fr.trans0 X9).transL X11).transR X19.fr).ext (by intro s hs; first | omega | (dsimp only at hs; omega) | (simp only [blk_nils, blk_sl] at hs ⊢; omega))) (by kernel_rfl) (by kernel_rfl)
    · skip
      (exfalso; omega)

theorem mayR_len {rs : List Rec} (h : ¬ (1 ≤ rs.length ∧ rs.length ≤ 16)) : mayR rs = false := by
  have : ¬ mayR rs = true := fun e => h ⟨(mayR_iff.1 e).1, (mayR_iff.1 e).2.1⟩
  simpa using this
theorem putE_bad {rs : List Rec} (h : mayR rs = false) : putE rs = 1 ∧ putX rs = [] := by simp [putE, putX, h]
theorem putE_ok {rs : List Rec} (h1 : 1 ≤ rs.length) (h2 : rs.length ≤ 16) (h : ∀ r ∈ rs, mayS r.2 = true) : putE rs = 0 ∧ putX rs = bytesR rs := by
  have := mayR_iff.2 ⟨h1, h2, h⟩
  simp [putE, putX, this]

set_option maxHeartbeats 8000000 in
theorem put64_run {h : H} {v : AV} {xs : List Ent} (hc : Es h v xs) (hf : FewE xs) : ∃ r h', Runs TF 64 [v] h r h' ∧ ∃ z, r = .tup [z, .int .i64 (putE (recsE xs))] ∧ Ext h h' ∧ Ow h.n h' z (putX (recsE xs)) := by
  refine Runs.ofP f64 rfl ?_
  have hmx : 200000000000000 = maxRow := rfl
  have hrl := recs_len (xs := xs)
  by_cases hx : 1 ≤ xs.length ∧ xs.length ≤ 16
  · obtain ⟨hx1, hx2⟩ := hx
    have m1 := hc.bq
    have k2 := hc.parts
    refine Wp.seq ?_
    refine Wp.region ?_
    refine Wo.pre 2 (by kernel_rfl) ?_
    refine Wo.nil ?_
    refine Wp.seq ?_
    refine Wp.seq ?_
    refine Wp.region ?_
    refine Wo.pre 1 (by kernel_rfl) ?_
    refine Wo.val (.int .i64 (List.length (xs) : Nat)) h (by kernel_rfl) (iop_lenS (v := v) (by kernel_rfl) hc.lenS) ?_
    refine Wo.cmp (op := .lss) (x := IX.t 10) (y := IX.c (AV.int IntKind.i64 1)) (k := IntKind.i64) (a := ↑xs.length) (b := 1) ((↑xs.length : Int) < (1 : Int)) (by kernel_rfl) (by kernel_rfl) (by kernel_rfl) (by kernel_rfl) (by simp) (by kernel_rfl) (fun q3 => ?_) (fun q3 => ?_)
    · (exfalso; omega)
    refine Wo.pre 2 (by kernel_rfl) ?_
    refine Wo.val (.int .i64 (List.length (xs) : Nat)) h (by kernel_rfl) (iop_lenS (v := v) (by kernel_rfl) hc.lenS) ?_
    refine Wo.cmp (op := .gtr) (x := IX.t 14) (y := IX.c (AV.int IntKind.i64 16)) (k := IntKind.i64) (a := ↑xs.length) (b := 16) ((↑xs.length : Int) > (16 : Int)) (by kernel_rfl) (by kernel_rfl) (by kernel_rfl) (by kernel_rfl) (by simp) (by kernel_rfl) (fun q4 => ?_) (fun q4 => ?_)
    · (exfalso; omega)
    refine Wo.pre 1 (by kernel_rfl) ?_
    refine Wo.nil ?_
    refine Wp.cond false (by kernel_rfl) ?_
    refine Wp.skip ?_
    refine Wp.seq ?_
    refine Wp.region ?_
    refine Wo.pre 1 (by kernel_rfl) ?_
    refine Wo.nil ?_
    refine Wp.seq ?_
    refine Wp.seq ?_
    refine Wp.region ?_
    refine Wo.pre 1 (by kernel_rfl) ?_
    refine Wo.val (.int .i64 (List.length (xs) : Nat)) h (by kernel_rfl) (iop_lenS (v := v) (by kernel_rfl) hc.lenS) ?_
    refine Wo.pre 1 (by kernel_rfl) ?_
    refine Wo.nil ?_
    refine Wp.block ?_
    refine put64_loop hc hx2 hf xs.length 0 (by omega) h .nils _ (Ext.refl _) Ow.nil0 (by simp [recsE]) (by kernel_rfl) (by kernel_rfl) (by kernel_rfl) (by kernel_rfl) (by kernel_rfl) _ ?_ ?_
    · intro ts' h' bV hE hO hm t0 tb
      obtain ⟨e1, e2⟩ := putE_ok (by rw [hrl]; exact hx1) (by rw [hrl]; exact hx2) hm
      rw [e1, e2]
      show Wp TF _ _ _
      rw [laid_eq t0 [(4, bV)] (by simp [tb])]
      have m1 := hc.bq
      have k2 := hc.parts
      have m3 := hO.bq
      have k4 := hO.parts
      have m5 := hE.1
      refine Wp.seq ?_
      refine Wp.region ?_
      refine Wo.pre 3 (by kernel_rfl) ?_
      refine Wo.nil ?_
      refine Wp.ret ?_
      refine ⟨.inr rfl, (.tup [bV, AV.int IntKind.i64 0]), (ret_many (res_tmp (by kernel_rfl) (res_tmp (by kernel_rfl) res_nil)) rfl), ?_⟩
      dsimp only
      exact ⟨bV, rfl, hE, hO⟩
    · intro ts' h' hm hE t2 t3
      obtain ⟨e1, e2⟩ := putE_bad hm
      rw [e1, e2]
      exact ⟨.inr rfl, .tup [.nils, .int .i64 1], ret_many (res_tmp (by rw [t2]; rfl) (res_tmp (by rw [t3]; rfl) res_nil)) rfl, .nils, rfl, hE, Ow.nil0⟩
  · have hb := putE_bad (mayR_len (rs := recsE xs) (by rw [hrl]; exact hx))
    rw [hb.1, hb.2]
    have m1 := hc.bq
    have k2 := hc.parts
    refine Wp.seq ?_
    refine Wp.region ?_
    refine Wo.pre 2 (by kernel_rfl) ?_
    refine Wo.nil ?_
    refine Wp.seq ?_
    refine Wp.seq ?_
    refine Wp.region ?_
    refine Wo.pre 1 (by kernel_rfl) ?_
    refine Wo.val (.int .i64 (List.length (xs) : Nat)) h (by kernel_rfl) (iop_lenS (v := v) (by kernel_rfl) hc.lenS) ?_
    refine Wo.cmp (op := .lss) (x := IX.t 10) (y := IX.c (AV.int IntKind.i64 1)) (k := IntKind.i64) (a := ↑xs.length) (b := 1) ((↑xs.length : Int) < (1 : Int)) (by kernel_rfl) (by kernel_rfl) (by kernel_rfl) (by kernel_rfl) (by simp) (by kernel_rfl) (fun q3 => ?_) (fun q3 => ?_)
    · skip
      refine Wo.pre 3 (by kernel_rfl) ?_
      refine Wo.pre 1 (by kernel_rfl) ?_
      refine Wo.pre 1 (by kernel_rfl) ?_
      refine Wo.nil ?_
      refine Wp.cond true (by kernel_rfl) ?_
      refine Wp.seq ?_
      refine Wp.region ?_
      refine Wo.pre 2 (by kernel_rfl) ?_
      refine Wo.nil ?_
      refine Wp.ret ?_
      refine ⟨.inr rfl, (.tup [AV.nils, AV.int IntKind.i64 1]), (ret_many (res_tmp (by kernel_rfl) (res_tmp (by kernel_rfl) res_nil)) rfl), ?_⟩
      dsimp only
      exact ⟨.nils, rfl, (Ext.refl _), Ow.nil0⟩
    · skip
      refine Wo.pre 2 (by kernel_rfl) ?_
      refine Wo.val (.int .i64 (List.length (xs) : Nat)) h (by kernel_rfl) (iop_lenS (v := v) (by kernel_rfl) hc.lenS) ?_
      refine Wo.cmp (op := .gtr) (x := IX.t 14) (y := IX.c (AV.int IntKind.i64 16)) (k := IntKind.i64) (a := ↑xs.length) (b := 16) ((↑xs.length : Int) > (16 : Int)) (by kernel_rfl) (by kernel_rfl) (by kernel_rfl) (by kernel_rfl) (by simp) (by kernel_rfl) (fun q4 => ?_) (fun q4 => ?_)
      rotate_left
      · (exfalso; omega)
      refine Wo.pre 1 (by kernel_rfl) ?_
      refine Wo.nil ?_
      refine Wp.cond true (by kernel_rfl) ?_
      refine Wp.seq ?_
      refine Wp.region ?_
      refine Wo.pre 2 (by kernel_rfl) ?_
      refine Wo.nil ?_
      refine Wp.ret ?_
      refine ⟨.inr rfl, (.tup [AV.nils, AV.int IntKind.i64 1]), (ret_many (res_tmp (by kernel_rfl) (res_tmp (by kernel_rfl) res_nil)) rfl), ?_⟩
      dsimp only
      exact ⟨.nils, rfl, (Ext.refl _), Ow.nil0⟩
set_option maxHeartbeats 8000000 in
theorem rput65_loop {h0 : H} {v : AV} {xs : List Ent} (hc : Es h0 v xs) (hx : xs.length ≤ 16) (hf : FewE xs) :
    ∀ (k i : Nat), i + k = xs.length → ∀ (h : H) (bV : AV) (ts : List AV), Ext h0 h → Ow h0.n h bV (bytesR (recsE (xs.take i))) → (∀ r ∈ recsE (xs.take i), mayS r.2 = true) → ts.length = 39 → getL ts 4 = some bV → getL ts 0 = some v → getL ts 5 = some (.int .i64 i) →
      ∀ (Q : Ex → St → Prop), (∀ ts' h' bV, Ext h0 h' → Ow h0.n h' bV (bytesR (recsE xs)) → (∀ r ∈ recsE xs, mayS r.2 = true) → ts'.length = 39 → getL ts' 4 = some bV → Q (.exit 0) (ts', h')) → (∀ ts' h', mayR (recsE xs) = false → Ext h0 h' → getL ts' 2 = some .nils → getL ts' 3 = some (.int .i64 1) → Q .ret (ts', h')) → Wp TF (.loop l65_1) (ts, h) Q := by
  have hmx : 200000000000000 = maxRow := rfl
  obtain ⟨hf1, hf2⟩ := hf
  intro k
  induction k with
  | zero =>
    intro i hi h bV ts hE hO hm t0 tb tv ti Q hQ hQ'
    obtain rfl : i = xs.length := by omega
    rw [List.take_length] at hO hm
    have hc' := hc.ext hE
    refine Wp.loop ?_
    rw [laid_eq t0 [(0, v), (4, bV), (5, .int .i64 xs.length)] (by simp [tb, tv, ti])]
    have m1 := hc.bq
    have k2 := hc.parts
    have m3 := hO.bq
    have k4 := hO.parts
    have m5 := hc'.bq
    have k6 := hc'.parts
    have m7 := hE.1
    refine Wp.seq ?_
    refine Wp.seq ?_
    refine Wp.region ?_
    refine Wo.pre 2 (by kernel_rfl) ?_
    refine Wo.val (.int .i64 (List.length (xs) : Nat)) h (by kernel_rfl) (iop_lenS (v := v) (by kernel_rfl) hc'.lenS) ?_
    refine Wo.cmp (op := .lss) (x := IX.t 16) (y := IX.t 18) (k := IntKind.i64) (a := ↑xs.length) (b := ↑xs.length) ((↑xs.length : Int) < (↑xs.length : Int)) (by kernel_rfl) (by kernel_rfl) (by kernel_rfl) (by kernel_rfl) (by simp) (by kernel_rfl) (fun q8 => ?_) (fun q8 => ?_)
    · (exfalso; omega)
    refine Wo.nil ?_
    refine Wp.cond false (by kernel_rfl) ?_
    refine Wp.exit ?_
    exact hQ _ _ bV hE hO hm (by kernel_rfl) (by kernel_rfl)
  | succ k ih =>
    intro i hi h bV ts hE hO hm t0 tb tv ti Q hQ hQ'
    have hlt : i < xs.length := by omega
    obtain ⟨⟨et, ez, ep⟩, hp⟩ : ∃ e, xs[i]? = some e := ⟨xs[i], List.getElem?_eq_getElem hlt⟩
    have hmem := List.mem_of_getElem? hp
    obtain ⟨f1, f2⟩ := hf2 _ hmem
    have het : et < 2 ^ 64 := (hc.el _ hmem).2
    have hB : Ch h ez ep := (hc.el _ hmem).1.ext hE
    dsimp only at f1 f2
    have hl := take_len (i := i) hx hm
    have hr := made_rec ep et
    obtain ⟨a, q, rfl, hld⟩ := (hc.ext hE).at hp
    dsimp only at hld
    have n0 := hE.1
    refine Wp.loop ?_
    rw [laid_eq t0 [(0, .sl a xs.length q), (4, bV), (5, .int .i64 i)] (by simp [tb, tv, ti])]
    have m1 := hO.bq
    have k2 := hO.parts
    have m3 := hB.bq
    have k4 := hB.parts
    have m5 := hc.bq
    have k6 := hc.parts
    have m7 := hE.1
    refine Wp.seq ?_
    refine Wp.seq ?_
    refine Wp.region ?_
    refine Wo.pre 3 (by kernel_rfl) ?_
    refine Wo.cmp (op := .lss) (x := IX.t 16) (y := IX.t 18) (k := IntKind.i64) (a := ↑i) (b := ↑xs.length) ((↑i : Int) < (↑xs.length : Int)) (by kernel_rfl) (by kernel_rfl) (by kernel_rfl) (by kernel_rfl) (by simp) (by kernel_rfl) (fun q8 => ?_) (fun q8 => ?_)
    rotate_left
    · (exfalso; omega)
    refine Wo.nil ?_
    refine Wp.cond true (by kernel_rfl) ?_
    refine Wp.skip ?_
    refine Wp.seq ?_
    refine Wp.block ?_
    refine Wp.seq ?_
    refine Wp.region ?_
    refine Wo.pre 2 (by kernel_rfl) ?_
    refine Wo.val (.ptr ⟨(a : AA).b, (a : AA).g, (a : AA).o + i * 2⟩) h (by kernel_rfl) (iop_iaN (a := a) (n := xs.length) (c := q) (ie := (↑i : Int)) (i := i) (by kernel_rfl) (by kernel_rfl) rfl (by first | omega | (simp; omega))) ?_
    refine Wo.val (AV.agg [AV.int IntKind.u64 ↑et, ez]) h (by kernel_rfl) (iop_ld (a := { b := a.b, g := a.g, o := a.o + i * 2 }) (by kernel_rfl) hld) ?_
    obtain ⟨r9, H10, c11, z12, rfl, X14, q15⟩ := rrecord_run (t := et) hB (by first | omega | (simp; omega) | (simp; done) | assumption) het
    have m16 := X14.1
    have m17 := q15.bq
    have k18 := q15.parts
    refine Wo.call (by kernel_rfl) (by kernel_rfl) c11 ?_
    clear c11
    refine Wo.pre 5 (by kernel_rfl) ?_
    refine Wo.nil ?_
    refine Wp.seq ?_
    refine Wp.seq ?_
    refine Wp.region ?_
    refine Wo.pre 1 (by kernel_rfl) ?_
    refine Wo.cmpN (op := .neq) (x := IX.t 30) (y := IX.c (AV.int IntKind.i64 0)) (k := IntKind.i64) (a := leafE ep) (b := 0) ((leafE ep : Int) = (0 : Int)) (by kernel_rfl) (by kernel_rfl) (by kernel_rfl) (by kernel_rfl) (by simp) (by kernel_rfl) (fun q19 => ?_) (fun q19 => ?_)
    · skip
      refine Wo.nil ?_
      refine Wp.cond false (by kernel_rfl) ?_
      refine Wp.skip ?_
      refine Wp.region ?_
      refine Wo.pre 2 (by kernel_rfl) ?_
      have F20 := (hO.fr X14.fr (.inr id))
      obtain ⟨r21, H22, c23, z24, rfl, X26, q27⟩ := rvec3 F20.bs q15.bs (by first | omega | (simp; omega) | (simp; done) | assumption) hr
      have m28 := X26.1
      have m29 := q27.bq
      have k30 := q27.parts
      refine Wo.call (by kernel_rfl) (by kernel_rfl) c23 ?_
      clear c23
      refine Wo.pre 4 (by kernel_rfl) ?_
      refine Wo.nil ?_
      refine Wp.region ?_
      refine Wo.pre 1 (by kernel_rfl) ?_
      refine Wo.val (.int IntKind.i64 ((↑i : Int) + (1 : Int))) H22 (by kernel_rfl) (iop_arith (op := .add) (a := ↑i) (b := 1) (by kernel_rfl) (by kernel_rfl) (by simp) (bin_add IntKind.i64 (by simp only [min_i64]; omega) (by simp only [max_i64]; omega))) ?_
      refine Wo.pre 1 (by kernel_rfl) ?_
      refine Wo.nil ?_
      exact ih (i + 1) (by omega) _ _ _ (((hE.fr.trans0 X14.fr).trans0 X26.fr).ext0) (by rw [← take_bytes hp (leafE_zero ‹leafE _ = 0›)]; exact (q27.mono (by omega))) (by exact take_may hm hp (leafE_zero ‹leafE _ = 0›)) (by kernel_rfl) (by kernel_rfl) (by kernel_rfl) (by kernel_rfl) Q hQ hQ'
    · skip
      refine Wo.nil ?_
      refine Wp.cond true (by kernel_rfl) ?_
      refine Wp.seq ?_
      refine Wp.region ?_
      refine Wo.pre 2 (by kernel_rfl) ?_
      refine Wo.nil ?_
      refine Wp.ret ?_
      exact hQ' _ _ (by exact bad_may hp (fun hh => ‹¬ leafE _ = 0› (leafE_ok hh))) ((hE.fr.trans0 X14.fr).ext0) (by kernel_rfl) (by kernel_rfl)

set_option maxHeartbeats 8000000 in
theorem rput65_run {h : H} {v : AV} {xs : List Ent} (hc : Es h v xs) (hf : FewE xs) : ∃ r h', Runs TF 65 [v] h r h' ∧ ∃ z, r = .tup [z, .int .i64 (putE (recsE xs))] ∧ Ext h h' ∧ Ow h.n h' z (putX (recsE xs)) := by
  refine Runs.ofP f65 rfl ?_
  have hmx : 200000000000000 = maxRow := rfl
  have hrl := recs_len (xs := xs)
  by_cases hx : 1 ≤ xs.length ∧ xs.length ≤ 16
  · obtain ⟨hx1, hx2⟩ := hx
    have m1 := hc.bq
    have k2 := hc.parts
    refine Wp.seq ?_
    refine Wp.region ?_
    refine Wo.pre 2 (by kernel_rfl) ?_
    refine Wo.nil ?_
    refine Wp.seq ?_
    refine Wp.seq ?_
    refine Wp.region ?_
    refine Wo.pre 1 (by kernel_rfl) ?_
    refine Wo.val (.int .i64 (List.length (xs) : Nat)) h (by kernel_rfl) (iop_lenS (v := v) (by kernel_rfl) hc.lenS) ?_
    refine Wo.cmp (op := .eql) (x := IX.t 9) (y := IX.c (AV.int IntKind.i64 0)) (k := IntKind.i64) (a := ↑xs.length) (b := 0) ((↑xs.length : Int) = (0 : Int)) (by kernel_rfl) (by kernel_rfl) (by kernel_rfl) (by kernel_rfl) (by simp) (by kernel_rfl) (fun q3 => ?_) (fun q3 => ?_)
    · (exfalso; omega)
    refine Wo.pre 2 (by kernel_rfl) ?_
    refine Wo.val (.int .i64 (List.length (xs) : Nat)) h (by kernel_rfl) (iop_lenS (v := v) (by kernel_rfl) hc.lenS) ?_
    refine Wo.cmp (op := .gtr) (x := IX.t 13) (y := IX.c (AV.int IntKind.i64 16)) (k := IntKind.i64) (a := ↑xs.length) (b := 16) ((↑xs.length : Int) > (16 : Int)) (by kernel_rfl) (by kernel_rfl) (by kernel_rfl) (by kernel_rfl) (by simp) (by kernel_rfl) (fun q4 => ?_) (fun q4 => ?_)
    · (exfalso; omega)
    refine Wo.pre 1 (by kernel_rfl) ?_
    refine Wo.nil ?_
    refine Wp.cond false (by kernel_rfl) ?_
    refine Wp.skip ?_
    refine Wp.seq ?_
    refine Wp.region ?_
    refine Wo.pre 1 (by kernel_rfl) ?_
    refine Wo.nil ?_
    refine Wp.seq ?_
    refine Wp.seq ?_
    refine Wp.region ?_
    refine Wo.pre 1 (by kernel_rfl) ?_
    refine Wo.nil ?_
    refine Wp.block ?_
    refine rput65_loop hc hx2 hf xs.length 0 (by omega) h .nils _ (Ext.refl _) Ow.nil0 (by simp [recsE]) (by kernel_rfl) (by kernel_rfl) (by kernel_rfl) (by kernel_rfl) _ ?_ ?_
    · intro ts' h' bV hE hO hm t0 tb
      obtain ⟨e1, e2⟩ := putE_ok (by rw [hrl]; exact hx1) (by rw [hrl]; exact hx2) hm
      rw [e1, e2]
      show Wp TF _ _ _
      rw [laid_eq t0 [(4, bV)] (by simp [tb])]
      have m1 := hc.bq
      have k2 := hc.parts
      have m3 := hO.bq
      have k4 := hO.parts
      have m5 := hE.1
      refine Wp.seq ?_
      refine Wp.region ?_
      refine Wo.pre 3 (by kernel_rfl) ?_
      refine Wo.nil ?_
      refine Wp.ret ?_
      refine ⟨.inr rfl, (.tup [bV, AV.int IntKind.i64 0]), (ret_many (res_tmp (by kernel_rfl) (res_tmp (by kernel_rfl) res_nil)) rfl), ?_⟩
      dsimp only
      exact ⟨bV, rfl, hE, hO⟩
    · intro ts' h' hm hE t2 t3
      obtain ⟨e1, e2⟩ := putE_bad hm
      rw [e1, e2]
      exact ⟨.inr rfl, .tup [.nils, .int .i64 1], ret_many (res_tmp (by rw [t2]; rfl) (res_tmp (by rw [t3]; rfl) res_nil)) rfl, .nils, rfl, hE, Ow.nil0⟩
  · have hb := putE_bad (mayR_len (rs := recsE xs) (by rw [hrl]; exact hx))
    rw [hb.1, hb.2]
    have m1 := hc.bq
    have k2 := hc.parts
    refine Wp.seq ?_
    refine Wp.region ?_
    refine Wo.pre 2 (by kernel_rfl) ?_
    refine Wo.nil ?_
    refine Wp.seq ?_
    refine Wp.seq ?_
    refine Wp.region ?_
    refine Wo.pre 1 (by kernel_rfl) ?_
    refine Wo.val (.int .i64 (List.length (xs) : Nat)) h (by kernel_rfl) (iop_lenS (v := v) (by kernel_rfl) hc.lenS) ?_
    refine Wo.cmp (op := .eql) (x := IX.t 9) (y := IX.c (AV.int IntKind.i64 0)) (k := IntKind.i64) (a := ↑xs.length) (b := 0) ((↑xs.length : Int) = (0 : Int)) (by kernel_rfl) (by kernel_rfl) (by kernel_rfl) (by kernel_rfl) (by simp) (by kernel_rfl) (fun q3 => ?_) (fun q3 => ?_)
    · skip
      refine Wo.pre 3 (by kernel_rfl) ?_
      refine Wo.pre 1 (by kernel_rfl) ?_
      refine Wo.pre 1 (by kernel_rfl) ?_
      refine Wo.nil ?_
      refine Wp.cond true (by kernel_rfl) ?_
      refine Wp.seq ?_
      refine Wp.region ?_
      refine Wo.pre 2 (by kernel_rfl) ?_
      refine Wo.nil ?_
      refine Wp.ret ?_
      refine ⟨.inr rfl, (.tup [AV.nils, AV.int IntKind.i64 1]), (ret_many (res_tmp (by kernel_rfl) (res_tmp (by kernel_rfl) res_nil)) rfl), ?_⟩
      dsimp only
      exact ⟨.nils, rfl, (Ext.refl _), Ow.nil0⟩
    · skip
      refine Wo.pre 2 (by kernel_rfl) ?_
      refine Wo.val (.int .i64 (List.length (xs) : Nat)) h (by kernel_rfl) (iop_lenS (v := v) (by kernel_rfl) hc.lenS) ?_
      refine Wo.cmp (op := .gtr) (x := IX.t 13) (y := IX.c (AV.int IntKind.i64 16)) (k := IntKind.i64) (a := ↑xs.length) (b := 16) ((↑xs.length : Int) > (16 : Int)) (by kernel_rfl) (by kernel_rfl) (by kernel_rfl) (by kernel_rfl) (by simp) (by kernel_rfl) (fun q4 => ?_) (fun q4 => ?_)
      rotate_left
      · (exfalso; omega)
      refine Wo.pre 1 (by kernel_rfl) ?_
      refine Wo.nil ?_
      refine Wp.cond true (by kernel_rfl) ?_
      refine Wp.seq ?_
      refine Wp.region ?_
      refine Wo.pre 2 (by kernel_rfl) ?_
      refine Wo.nil ?_
      refine Wp.ret ?_
      refine ⟨.inr rfl, (.tup [AV.nils, AV.int IntKind.i64 1]), (ret_many (res_tmp (by kernel_rfl) (res_tmp (by kernel_rfl) res_nil)) rfl), ?_⟩
      dsimp only
      exact ⟨.nils, rfl, (Ext.refl _), Ow.nil0⟩

theorem recs_take {xs ys : List Ent} {i : Nat} {e f : Ent} (h : recsE (xs.take i) = recsE (ys.take i)) (hp : xs[i]? = some e) (hq : ys[i]? = some f) (hs : e.t = f.t ∧ says e.ps = says f.ps) : recsE (xs.take (i + 1)) = recsE (ys.take (i + 1)) := by
  rw [take_step hp, take_step hq]
  simp only [recsE, List.map_append, List.map_cons, List.map_nil, Ent.tell] at h ⊢
  rw [h, hs.1, hs.2]
theorem recs_ne {xs ys : List Ent} {i : Nat} {e f : Ent} (hp : xs[i]? = some e) (hq : ys[i]? = some f) (hs : ¬ (e.t = f.t ∧ says e.ps = says f.ps)) : decide (recsE xs = recsE ys) = false := by
  simp only [decide_eq_false_iff_not]
  intro h
  have h1 : (recsE xs)[i]? = some e.tell := by simp [recsE, hp]
  have h2 : (recsE ys)[i]? = some f.tell := by simp [recsE, hq]
  rw [h, h2] at h1
  simp only [Option.some.injEq, Ent.tell, Prod.mk.injEq] at h1
  exact hs ⟨h1.1.symm, h1.2.symm⟩
theorem sameE_iff {t u : Nat} {ps qs : List (AV × List UInt8)} : sameE t ps u qs = true ↔ t = u ∧ says ps = says qs := by simp [sameE]
theorem sameE_not {t u : Nat} {ps qs : List (AV × List UInt8)} (h : sameE t ps u qs = false) : ¬ (t = u ∧ says ps = says qs) := fun e => by rw [sameE_iff.2 e] at h; cases h

set_option maxHeartbeats 8000000 in
theorem same68_loop {h0 : H} {v w : AV} {xs ys : List Ent} (hc : Es h0 v xs) (hd : Es h0 w ys) (hl : xs.length = ys.length) (hf : FewE xs) :
    ∀ (k i : Nat), i + k = xs.length → ∀ (h : H) (ts : List AV), Ext h0 h → recsE (xs.take i) = recsE (ys.take i) → ts.length = 27 → getL ts 0 = some v → getL ts 1 = some w → getL ts 5 = some (.int .i64 i) →
      ∀ (Q : Ex → St → Prop), (∀ ts' h', Ext h0 h' → decide (recsE xs = recsE ys) = true → ts'.length = 27 → Q (.exit 0) (ts', h')) → (∀ ts' h', decide (recsE xs = recsE ys) = false → Ext h0 h' → getL ts' 4 = some (.bool false) → Q .ret (ts', h')) → Wp TF (.loop l68_1) (ts, h) Q := by
  have hmx : 200000000000000 = maxRow := rfl
  obtain ⟨hf1, hf2⟩ := hf
  intro k
  induction k with
  | zero =>
    intro i hi h ts hE hm t0 tv tw ti Q hQ hQ'
    obtain rfl : i = xs.length := by omega
    have hm' : decide (recsE xs = recsE ys) = true := by
      rw [List.take_length, hl, List.take_length] at hm
      simpa using hm
    have hc' := hc.ext hE
    refine Wp.loop ?_
    rw [laid_eq t0 [(0, v), (1, w), (5, .int .i64 xs.length)] (by simp [tv, tw, ti])]
    have m1 := hc.bq
    have k2 := hc.parts
    have m3 := hd.bq
    have k4 := hd.parts
    have m5 := hc'.bq
    have k6 := hc'.parts
    have m7 := hE.1
    refine Wp.seq ?_
    refine Wp.seq ?_
    refine Wp.region ?_
    refine Wo.pre 2 (by kernel_rfl) ?_
    refine Wo.val (.int .i64 (List.length (xs) : Nat)) h (by kernel_rfl) (iop_lenS (v := v) (by kernel_rfl) hc'.lenS) ?_
    refine Wo.cmp (op := .lss) (x := IX.t 11) (y := IX.t 13) (k := IntKind.i64) (a := ↑xs.length) (b := ↑xs.length) ((↑xs.length : Int) < (↑xs.length : Int)) (by kernel_rfl) (by kernel_rfl) (by kernel_rfl) (by kernel_rfl) (by simp) (by kernel_rfl) (fun q8 => ?_) (fun q8 => ?_)
    · (exfalso; omega)
    refine Wo.nil ?_
    refine Wp.cond false (by kernel_rfl) ?_
    refine Wp.exit ?_
    exact hQ _ _ hE hm' (by kernel_rfl)
  | succ k ih =>
    intro i hi h ts hE hm t0 tv tw ti Q hQ hQ'
    have hlt : i < xs.length := by omega
    have hlt' : i < ys.length := by omega
    obtain ⟨⟨et, ez, ep⟩, hp⟩ : ∃ e, xs[i]? = some e := ⟨xs[i], List.getElem?_eq_getElem hlt⟩
    obtain ⟨⟨ft, fz, fp⟩, hq⟩ : ∃ e, ys[i]? = some e := ⟨ys[i], List.getElem?_eq_getElem hlt'⟩
    have hmem := List.mem_of_getElem? hp
    have hmem' := List.mem_of_getElem? hq
    obtain ⟨f1, f2⟩ := hf2 _ hmem
    have hB : Ch h ez ep := (hc.el _ hmem).1.ext hE
    have hB' : Ch h fz fp := (hd.el _ hmem').1.ext hE
    dsimp only at f1 f2
    obtain ⟨a, q, rfl, hld⟩ := (hc.ext hE).at hp
    obtain ⟨b, r, rfl, hld'⟩ := (hd.ext hE).at hq
    dsimp only at hld hld'
    have n0 := hE.1
    refine Wp.loop ?_
    rw [laid_eq t0 [(0, .sl a xs.length q), (1, .sl b ys.length r), (5, .int .i64 i)] (by simp [tv, tw, ti])]
    have m1 := hB.bq
    have k2 := hB.parts
    have m3 := hB'.bq
    have k4 := hB'.parts
    have m5 := hc.bq
    have k6 := hc.parts
    have m7 := hd.bq
    have k8 := hd.parts
    have m9 := hE.1
    refine Wp.seq ?_
    refine Wp.seq ?_
    refine Wp.region ?_
    refine Wo.pre 3 (by kernel_rfl) ?_
    refine Wo.cmp (op := .lss) (x := IX.t 11) (y := IX.t 13) (k := IntKind.i64) (a := ↑i) (b := ↑xs.length) ((↑i : Int) < (↑xs.length : Int)) (by kernel_rfl) (by kernel_rfl) (by kernel_rfl) (by kernel_rfl) (by simp) (by kernel_rfl) (fun q10 => ?_) (fun q10 => ?_)
    rotate_left
    · (exfalso; omega)
    refine Wo.nil ?_
    refine Wp.cond true (by kernel_rfl) ?_
    refine Wp.skip ?_
    refine Wp.seq ?_
    refine Wp.block ?_
    refine Wp.seq ?_
    refine Wp.draw ?_
    refine Wd.pure (by kernel_rfl) (by kernel_rfl) ?_
    refine Wd.pure (by kernel_rfl) (by kernel_rfl) ?_
    refine Wd.make (.ptr ⟨(a : AA).b, (a : AA).g, (a : AA).o + i * 2⟩) h (by kernel_rfl) (by kernel_rfl) (iop_iaN (a := a) (n := xs.length) (c := q) (ie := (↑i : Int)) (i := i) (by kernel_rfl) (by kernel_rfl) rfl (by first | omega | (simp; omega))) ?_
    refine Wd.read (AV.agg [AV.int IntKind.u64 ↑et, ez]) (.ld (some 2) (.c (.ptr { b := a.b, g := a.g, o := a.o + i * 2 }))) (by kernel_rfl) (by kernel_rfl) (iop_ld (a := { b := a.b, g := a.g, o := a.o + i * 2 }) (by kernel_rfl) hld) ?_
    refine Wd.pure (by kernel_rfl) (by kernel_rfl) ?_
    refine Wd.pure (by kernel_rfl) (by kernel_rfl) ?_
    refine Wd.make (.ptr ⟨(b : AA).b, (b : AA).g, (b : AA).o + i * 2⟩) h (by kernel_rfl) (by kernel_rfl) (iop_iaN (a := b) (n := ys.length) (c := r) (ie := (↑i : Int)) (i := i) (by kernel_rfl) (by kernel_rfl) rfl (by first | omega | (simp; omega))) ?_
    refine Wd.read (AV.agg [AV.int IntKind.u64 ↑ft, fz]) (.ld (some 2) (.c (.ptr { b := b.b, g := b.g, o := b.o + i * 2 }))) (by kernel_rfl) (by kernel_rfl) (iop_ld (a := { b := b.b, g := b.g, o := b.o + i * 2 }) (by kernel_rfl) hld') ?_
    obtain ⟨r11, H12, c13, rfl, X15⟩ := rsamee_run hB hB' (by first | omega | (simp; omega) | (simp; done) | assumption) (et) (ft)
    have m16 := X15.1
    refine Wd.call (by kernel_rfl) (by kernel_rfl) c13 (holds_of [(IOp.ld (some 2) (IX.c (AV.ptr { b := b.b, g := b.g, o := b.o + i * 2 })), AV.agg [AV.int IntKind.u64 ↑ft, fz], 7), (IOp.ld (some 2) (IX.c (AV.ptr { b := a.b, g := a.g, o := a.o + i * 2 })), AV.agg [AV.int IntKind.u64 ↑et, ez], 3)] (by kernel_rfl) (holds_and (rd_ld hld') (holds_and (rd_ld hld) rfl))) ?_
    clear c13
    refine Wd.boolS (fun q17 => ?_) (fun q17 => ?_)
    · skip
      refine Wd.pure (by kernel_rfl) (by kernel_rfl) ?_
      refine Wd.done (holds_of [] (by kernel_rfl) rfl) ?_
      refine Wp.cond false (by kernel_rfl) ?_
      refine Wp.skip ?_
      refine Wp.region ?_
      refine Wo.pre 1 (by kernel_rfl) ?_
      refine Wo.val (.int IntKind.i64 ((↑i : Int) + (1 : Int))) H12 (by kernel_rfl) (iop_arith (op := .add) (a := ↑i) (b := 1) (by kernel_rfl) (by kernel_rfl) (by simp) (bin_add IntKind.i64 (by simp only [min_i64]; omega) (by simp only [max_i64]; omega))) ?_
      refine Wo.pre 1 (by kernel_rfl) ?_
      refine Wo.nil ?_
      exact ih (i + 1) (by omega) _ _ ((hE.fr.trans0 X15.fr).ext0) (by exact recs_take hm hp hq (sameE_iff.1 ‹sameE _ _ _ _ = true›)) (by kernel_rfl) (by kernel_rfl) (by kernel_rfl) (by kernel_rfl) Q hQ hQ'
    · skip
      refine Wd.pure (by kernel_rfl) (by kernel_rfl) ?_
      refine Wd.done (holds_of [] (by kernel_rfl) rfl) ?_
      refine Wp.cond true (by kernel_rfl) ?_
      refine Wp.seq ?_
      refine Wp.region ?_
      refine Wo.pre 1 (by kernel_rfl) ?_
      refine Wo.nil ?_
      refine Wp.ret ?_
      exact hQ' _ _ (by exact recs_ne hp hq (sameE_not ‹sameE _ _ _ _ = false›)) ((hE.fr.trans0 X15.fr).ext0) (by kernel_rfl)
end Go.Det

/- Bundles read: the walks. -/
set_option linter.unusedVariables false
set_option linter.unusedSimpArgs false
set_option linter.unusedSectionVars false
namespace Go.Det
open Go.Proofs
attribute [local irreducible] Wp Wo Wd iop ev slots quiets wanted put

/-- A number that fits the kind that it is made. -/
theorem iop_cvIfit {k kk : IntKind} {x : IX} {ρ : IX → AV} {h : H} {a : Int} (hx : ρ x = .int kk a) (h1 : k.min ≤ a) (h2 : a ≤ k.max) : iop (.cvI k x) ρ h = some (.val (.int k a) h) := by
  simp only [iop, hx, asI, Option.map_some, fit_kind k _ h1 h2]

theorem takerecJ {h : H} {y : AV} {l : List UInt8} (hy : Bs h y l) (hl : l.length ≤ maxRow) : ∃ r h', Runs TF 54 [y] h r h' ∧ ∃ t z ps E, r = .tup [entV t z, .int .i64 E] ∧ Ext h h' ∧ OwI h.n h'.n h' z ps ∧ recOf l = (t, says ps, E) ∧ t < 2 ^ 64 := by
  obtain ⟨r, h', c, t, z, ps, E, e, x, o, q⟩ := takerecI hy hl
  exact ⟨r, h', c, t, z, ps, E, e, x, o, q, by rcases rec_dec q with h1 | h1 <;> omega⟩
theorem rtakerecJ {h : H} {y : AV} {l : List UInt8} (hy : Bs h y l) (hok : Cok y) (hl : l.length ≤ maxRow) : ∃ r h', Runs TF 55 [y] h r h' ∧ ∃ t z ps E, r = .tup [entV t z, .int .i64 E] ∧ Ext h h' ∧ OwI h.n h'.n h' z ps ∧ recOf l = (t, says ps, E) ∧ t < 2 ^ 64 := by
  obtain ⟨r, h', c, t, z, ps, E, e, x, o, q⟩ := rtakerecI hy hok hl
  exact ⟨r, h', c, t, z, ps, E, e, x, o, q, by rcases rec_dec q with h1 | h1 <;> omega⟩

theorem takeF_sixteen {k n : Nat} {l : List UInt8} (hl : l ≠ []) (h : n = 16) : takeF (k + 1) n l = none := takeF_bad hl (fun e => e.2 h)
theorem takeF_ve {k n : Nat} {l : List UInt8} (hl : l ≠ []) (h : ¬ vE l 3 = 0) : takeF (k + 1) n l = none := takeF_bad hl (fun e => h e.1)
theorem takeF_norec {k n : Nat} {l : List UInt8} (hl : l ≠ []) (h : vE l 3 = 0) (h2 : ¬ n = 16) {t : Nat} {cs : List (List UInt8)} {E : Int} (hr : recOf (vX l 3) = (t, cs, E)) (hE : ¬ E = 0) : takeF (k + 1) n l = none := by rw [takeF_rec hl h h2 hr, if_neg hE]
theorem takeF_yes {k n : Nat} {l : List UInt8} (hl : l ≠ []) (h : vE l 3 = 0) (h2 : ¬ n = 16) {t : Nat} {cs : List (List UInt8)} {E : Int} (hr : recOf (vX l 3) = (t, cs, E)) (hE : E = 0) : takeF (k + 1) n l = (takeF k (n + 1) (vL l 3)).map ((t, cs) :: ·) := by rw [takeF_rec hl h h2 hr, if_pos hE]
theorem recs_add {ys : List Ent} {t : Nat} {z : AV} {ps : List (AV × List UInt8)} : recsE (ys ++ [Ent.mk t z ps]) = recsE ys ++ [(t, says ps)] := by simp [recsE, Ent.tell]

theorem takeF_goS {k : Nat} {l : List UInt8} {ys : List Ent} {t : Nat} {z : AV} {ps : List (AV × List UInt8)} {E : Int} {rs : List Rec} (hl : l ≠ []) (hv : vE l 3 = 0) (hn : ¬ (ys.length : Int) = 16) (hr : recOf (vX l 3) = (t, says ps, E)) (hE : E = 0) (q : takeF k (ys ++ [Ent.mk t z ps]).length (vL l 3) = some rs) : takeF (k + 1) ys.length l = some ((t, says ps) :: rs) := by
  rw [takeF_yes hl hv (by omega) hr hE]
  rw [List.length_append] at q
  exact congrArg (Option.map _) q
theorem takeF_goN {k : Nat} {l : List UInt8} {ys : List Ent} {t : Nat} {z : AV} {ps : List (AV × List UInt8)} {E : Int} (hl : l ≠ []) (hv : vE l 3 = 0) (hn : ¬ (ys.length : Int) = 16) (hr : recOf (vX l 3) = (t, says ps, E)) (hE : E = 0) (q : takeF k (ys ++ [Ent.mk t z ps]).length (vL l 3) = none) : takeF (k + 1) ys.length l = none := by
  rw [takeF_yes hl hv (by omega) hr hE]
  rw [List.length_append] at q
  exact congrArg (Option.map _) q
theorem recs_go {ys zs : List Ent} {t : Nat} {z : AV} {ps : List (AV × List UInt8)} {rs : List Rec} (q : recsE zs = recsE (ys ++ [Ent.mk t z ps]) ++ rs) : recsE zs = recsE ys ++ ((t, says ps) :: rs) := by rw [q, recs_add, List.append_assoc]; rfl

attribute [local irreducible] recOf takeF
set_option maxHeartbeats 8000000 in
theorem take66_loop {hb : H} {rb : Nat} (hrb : rb < hb.n) :
    ∀ (k : Nat) (l : List UInt8), l.length ≤ k → l.length ≤ maxRow → ∀ (h : H) (u lV : AV) (ys : List Ent) (ts : List AV), Rd h rb u l → blk u ≤ hb.n → Fr (fun s => s = rb + 1) hb h → OwE hb.n h lV ys → ys.length ≤ 16 → ts.length = 44 → getL ts 4 = some (.ptr ⟨rb, 0, 0⟩) → getL ts 5 = some (.fn (.func 29) [.ptr ⟨rb, 0, 0⟩] []) → getL ts 6 = some lV →
      ∀ (Q : Ex → St → Prop), (∀ ts' h' lV' zs rs, takeF k ys.length l = some rs → Fr (fun s => s = rb + 1) hb h' → OwE hb.n h' lV' zs → recsE zs = recsE ys ++ rs → ts'.length = 44 → getL ts' 6 = some lV' → Q (.exit 0) (ts', h')) → (∀ ts' h', takeF k ys.length l = none → Fr (fun s => s = rb + 1) hb h' → getL ts' 2 = some .nils → getL ts' 3 = some (.int .i64 5) → Q .ret (ts', h')) → Wp TF (.loop l66_1) (ts, h) Q := by
  have hmx : 200000000000000 = maxRow := rfl
  intro k
  induction k with
  | zero =>
    intro l hk hm h u lV ys ts hR hu hF hO hy t0 t4 t5 t6 Q hQ hQ'
    obtain rfl : l = [] := List.length_eq_zero_iff.1 (by omega)
    have n0 := hF.1
    refine Wp.loop ?_
    rw [laid_eq t0 [(4, .ptr ⟨rb, 0, 0⟩), (5, .fn (.func 29) [.ptr ⟨rb, 0, 0⟩] []), (6, lV)] (by simp [t4, t5, t6])]
    have m1 := hO.bq
    have k2 := hO.parts
    have m3 := hR.bq
    have m4 := hF.1
    refine Wp.seq ?_
    refine Wp.seq ?_
    refine Wp.region ?_
    refine Wo.pre 1 (by kernel_rfl) ?_
    have c5 := left_run (b := rb) hR
    refine Wo.call (by kernel_rfl) (by kernel_rfl) c5 ?_
    clear c5
    refine Wo.pre 1 (by kernel_rfl) ?_
    refine Wo.nil ?_
    refine Wp.cond false (by kernel_rfl) ?_
    refine Wp.exit ?_
    exact hQ _ _ lV ys [] (takeF_nil _ _) hF hO (by simp) (by kernel_rfl) (by kernel_rfl)
  | succ k ih =>
    intro l hk hm h u lV ys ts hR hu hF hO hy t0 t4 t5 t6 Q hQ hQ'
    have n0 := hF.1
    by_cases hl : l = []
    · subst hl
      refine Wp.loop ?_
      rw [laid_eq t0 [(4, .ptr ⟨rb, 0, 0⟩), (5, .fn (.func 29) [.ptr ⟨rb, 0, 0⟩] []), (6, lV)] (by simp [t4, t5, t6])]
      have m1 := hO.bq
      have k2 := hO.parts
      have m3 := hR.bq
      have m4 := hF.1
      refine Wp.seq ?_
      refine Wp.seq ?_
      refine Wp.region ?_
      refine Wo.pre 1 (by kernel_rfl) ?_
      have c5 := left_run (b := rb) hR
      refine Wo.call (by kernel_rfl) (by kernel_rfl) c5 ?_
      clear c5
      refine Wo.pre 1 (by kernel_rfl) ?_
      refine Wo.nil ?_
      refine Wp.cond false (by kernel_rfl) ?_
      refine Wp.exit ?_
      exact hQ _ _ lV ys [] (takeF_nil _ _) hF hO (by simp) (by kernel_rfl) (by kernel_rfl)
    · have hpos : 0 < l.length := List.length_pos_iff.2 hl
      have r4 := vX_len l 3
      have r5 := vL_len l 3
      refine Wp.loop ?_
      rw [laid_eq t0 [(4, .ptr ⟨rb, 0, 0⟩), (5, .fn (.func 29) [.ptr ⟨rb, 0, 0⟩] []), (6, lV)] (by simp [t4, t5, t6])]
      have m1 := hR.bq
      have m2 := hO.bq
      have k3 := hO.parts
      have m4 := hF.1
      refine Wp.seq ?_
      refine Wp.seq ?_
      refine Wp.region ?_
      refine Wo.pre 1 (by kernel_rfl) ?_
      have c5 := left_run (b := rb) hR
      refine Wo.call (by kernel_rfl) (by kernel_rfl) c5 ?_
      clear c5
      refine Wo.cmp (op := .gtr) (x := IX.t 15) (y := IX.c (AV.int IntKind.i64 0)) (k := IntKind.i64) (a := ↑l.length) (b := 0) ((↑l.length : Int) > (0 : Int)) (by kernel_rfl) (by kernel_rfl) (by kernel_rfl) (by kernel_rfl) (by simp) (by kernel_rfl) (fun q6 => ?_) (fun q6 => ?_)
      rotate_left
      · (exfalso; omega)
      refine Wo.nil ?_
      refine Wp.cond true (by kernel_rfl) ?_
      refine Wp.skip ?_
      refine Wp.block ?_
      refine Wp.seq ?_
      refine Wp.region ?_
      refine Wo.pre 1 (by kernel_rfl) ?_
      obtain ⟨H7, x8, v9, c10, q11, q12, X13, q14⟩ := vec_any (b := rb) hR (3) hm
      have m15 := q11.bq
      have m16 := q12.bq
      have k17 := q12.parts
      have m18 := X13.1
      have m19 := q14.bq
      refine Wo.call (by kernel_rfl) (by kernel_rfl) c10 ?_
      clear c10
      refine Wo.pre 5 (by kernel_rfl) ?_
      refine Wo.nil ?_
      refine Wp.seq ?_
      refine Wp.seq ?_
      refine Wp.region ?_
      refine Wo.pre 1 (by kernel_rfl) ?_
      refine Wo.cmpN (op := .neq) (x := IX.t 22) (y := IX.c (AV.int IntKind.i64 0)) (k := IntKind.i64) (a := vE l 3) (b := 0) ((vE l 3 : Int) = (0 : Int)) (by kernel_rfl) (by kernel_rfl) (by kernel_rfl) (by kernel_rfl) (by simp) (by kernel_rfl) (fun q20 => ?_) (fun q20 => ?_)
      · skip
        refine Wo.pre 2 (by kernel_rfl) ?_
        have F21 := (hO.fr X13.fr (by have d0 := m2.1.e; (first | omega | (intro s hs; omega) | (dsimp only; omega) | (intro s hs; dsimp only at hs; omega) | (simp only [blk_nils, blk_sl]; omega) | (intro s hs; simp only [blk_nils, blk_sl] at hs ⊢; omega) | (simp; done))))
        refine Wo.val (.int .i64 (List.length (ys) : Nat)) H7 (by kernel_rfl) (iop_lenS (v := lV) (by kernel_rfl) F21.es.lenS) ?_
        refine Wo.cmp (op := .eql) (x := IX.t 26) (y := IX.c (AV.int IntKind.i64 16)) (k := IntKind.i64) (a := ↑ys.length) (b := 16) ((↑ys.length : Int) = (16 : Int)) (by kernel_rfl) (by kernel_rfl) (by kernel_rfl) (by kernel_rfl) (by simp) (by kernel_rfl) (fun q22 => ?_) (fun q22 => ?_)
        · skip
          have m23 := F21.bq
          have k24 := F21.parts
          refine Wo.pre 1 (by kernel_rfl) ?_
          refine Wo.nil ?_
          refine Wp.cond true (by kernel_rfl) ?_
          refine Wp.seq ?_
          refine Wp.region ?_
          refine Wo.pre 2 (by kernel_rfl) ?_
          refine Wo.nil ?_
          refine Wp.ret ?_
          exact hQ' _ _ (by exact takeF_sixteen hl (by omega)) ((hF.trans X13.fr).mono (by intro s hb hs; first | omega | (dsimp only at hs ⊢; omega) | (simp only [blk_nils, blk_sl] at hs ⊢; omega))) (by kernel_rfl) (by kernel_rfl)
        · skip
          have m25 := F21.bq
          have k26 := F21.parts
          refine Wo.pre 1 (by kernel_rfl) ?_
          refine Wo.nil ?_
          refine Wp.cond false (by kernel_rfl) ?_
          refine Wp.skip ?_
          refine Wp.seq ?_
          refine Wp.region ?_
          refine Wo.pre 1 (by kernel_rfl) ?_
          obtain ⟨r27, H28, c29, t30, z31, ps32, E33, rfl, X35, q36, q37, q38⟩ := takerecJ q12.bs (by first | omega | (simp; omega) | (simp; done) | assumption)
          have m39 := X35.1
          have m40 := q36.bq
          have k41 := q36.parts
          refine Wo.call (by kernel_rfl) (by kernel_rfl) c29 ?_
          clear c29
          refine Wo.pre 3 (by kernel_rfl) ?_
          obtain ⟨H42, e42, P42, X42, n42⟩ := pt_new H28 70 [AV.int IntKind.u64 0, AV.nils] (ones_cons rfl (ones_cons rfl ones_nil))
          refine Wo.val (.ptr ⟨H.n H28, 0, 0⟩) H42 (by kernel_rfl) (e42 (v := AV.agg [AV.int IntKind.u64 0, AV.nils]) (by kernel_rfl) rfl) ?_
          clear e42
          have m43 := X42.1
          obtain ⟨H44, e44, P44, X44, n44⟩ := P42.st 0 [AV.int IntKind.u64 ↑t30, z31] (by simp) (ones_cons rfl (ones_cons k41.2.1 ones_nil))
          refine Wo.val .undef H44 (by kernel_rfl) (iop_stP (a := { b := H28.n, g := 0, o := 0 }) (v := AV.agg [AV.int IntKind.u64 ↑t30, z31]) (vs := [AV.int IntKind.u64 ↑t30, z31]) (by kernel_rfl) (by kernel_rfl) rfl rfl e44) ?_
          have m45 := X44.1
          replace P44 : Pt H44 H28.n (Blk.cells 0 70 [AV.int IntKind.u64 ↑t30, z31] 0 false) := P44
          refine Wo.pre 1 (by kernel_rfl) ?_
          refine Wo.nil ?_
          refine Wp.seq ?_
          refine Wp.seq ?_
          refine Wp.region ?_
          refine Wo.pre 1 (by kernel_rfl) ?_
          refine Wo.cmpN (op := .neq) (x := IX.t 34) (y := IX.c (AV.int IntKind.i64 0)) (k := IntKind.i64) (a := E33) (b := 0) ((E33 : Int) = (0 : Int)) (by kernel_rfl) (by kernel_rfl) (by kernel_rfl) (by kernel_rfl) (by simp) (by kernel_rfl) (fun q46 => ?_) (fun q46 => ?_)
          · skip
            have m47 := P42.1
            have m48 := P44.1
            refine Wo.nil ?_
            refine Wp.cond false (by kernel_rfl) ?_
            refine Wp.skip ?_
            refine Wp.region ?_
            refine Wo.pre 1 (by kernel_rfl) ?_
            refine Wo.val (AV.agg [AV.int IntKind.u64 ↑t30, z31]) H44 (by kernel_rfl) (iop_ldP P44 (a := { b := H28.n, g := 0, o := 0 }) (by kernel_rfl) rfl (by kernel_rfl)) ?_
            obtain ⟨H49, e49, P49, X49, n49⟩ := bsl_new H44 70 [AV.int IntKind.u64 ↑t30, z31] (ones_cons rfl (ones_cons k41.2.1 ones_nil))
            refine Wo.val (.sl ⟨H.n H44, 0, 0⟩ 1 (.ex 1)) H49 (by kernel_rfl) (e49 (fill_cons (v := AV.agg [AV.int IntKind.u64 ↑t30, z31]) (vs := [AV.int IntKind.u64 ↑t30, z31]) (by kernel_rfl) rfl (by kernel_rfl) rfl)) ?_
            clear e49
            have m50 := X49.1
            have F51 := (F21.fr (((X35.fr.trans0 X42).transL X44).transR X49) (by have d0 := m2.1.e; have d1 := m25.1.e; (first | omega | (intro s hs; omega) | (dsimp only; omega) | (intro s hs; dsimp only at hs; omega) | (simp only [blk_nils, blk_sl]; omega) | (intro s hs; simp only [blk_nils, blk_sl] at hs ⊢; omega) | (simp; done))))
            have F52 := (q36.fr ((X42.transL X44).transR X49) (by have d0 := m40.1.e; (first | omega | (intro s hs; omega) | (dsimp only; omega) | (intro s hs; dsimp only at hs; omega) | (simp only [blk_nils, blk_sl]; omega) | (intro s hs; simp only [blk_nils, blk_sl] at hs ⊢; omega) | (simp; done))))
            obtain ⟨v53, H54, a55, q56, X57⟩ := app70_one (lo := hb.n) (lo2 := H7.n) (hi2 := H28.n) (b := H44.n) (t := t30) P49 F51 F52 q38 (by first | omega | (simp; omega) | (simp; done) | assumption) (by first | omega | (simp; omega) | (simp; done) | assumption) (by first | omega | (simp; omega) | (simp; done) | assumption)
            refine Wo.val _ _ (by kernel_rfl) (iop_appG (v := lV) (w := AV.sl { b := H44.n, g := 0, o := 0 } 1 (Cp.ex 1)) (by kernel_rfl) (by kernel_rfl) rfl a55) ?_
            have m58 := q56.bq
            have k59 := q56.parts
            have m60 := X57.1
            refine Wo.pre 1 (by kernel_rfl) ?_
            refine Wo.nil ?_
            exact ih (vL l 3) (by have := vL3_len ‹vE l 3 = 0›; omega) (by omega) _ _ _ _ _ (q11.fr ((((X35.fr.trans0 X42).transL X44).transR X49).trans X57) (by have d0 := m2.1.e; have d1 := m15.1.e; have d2 := m19.e; have d3 := m25.1.e; have d4 := m1.1.e; (first | omega | (intro s hs; omega) | (dsimp only; omega) | (intro s hs; dsimp only at hs; omega) | (simp only [blk_nils, blk_sl]; omega) | (intro s hs; simp only [blk_nils, blk_sl] at hs ⊢; omega) | (simp; done)))) (by ((rcases SB.blk ‹SB _ _› with e | e <;> omega))) (((((((hF.trans X13.fr).transR X35.fr).transR X42).trans X44).transR X49).trans X57).mono (by have d0 := m2.1.e; have d1 := m25.1.e; intro s hb hs; first | omega | (dsimp only at hs ⊢; omega) | (simp only [blk_nils, blk_sl] at hs ⊢; omega))) q56 (by ((rw [List.length_append]; simp only [List.length_cons, List.length_nil]; omega))) (by kernel_rfl) (by kernel_rfl) (by kernel_rfl) (by kernel_rfl) Q (fun ts' h' lV' zs rs q1 q2 q3 q4 q5 q6 => hQ ts' h' lV' zs _ (takeF_goS hl ‹vE l 3 = 0› ‹¬ _ = (16 : Int)› ‹recOf _ = _› ‹_ = (0 : Int)› q1) q2 q3 (recs_go q4) q5 q6) (fun ts' h' q1 q2 q3 q4 => hQ' ts' h' (takeF_goN hl ‹vE l 3 = 0› ‹¬ _ = (16 : Int)› ‹recOf _ = _› ‹_ = (0 : Int)› q1) q2 q3 q4)
          · skip
            have m61 := P42.1
            have m62 := P44.1
            refine Wo.nil ?_
            refine Wp.cond true (by kernel_rfl) ?_
            refine Wp.seq ?_
            refine Wp.region ?_
            refine Wo.pre 2 (by kernel_rfl) ?_
            refine Wo.nil ?_
            refine Wp.ret ?_
            exact hQ' _ _ (by exact takeF_norec hl ‹vE l 3 = 0› (by omega) ‹recOf _ = _› ‹¬ _ = (0 : Int)›) (((((hF.trans X13.fr).transR X35.fr).transR X42).trans X44).mono (by intro s hb hs; first | omega | (dsimp only at hs ⊢; omega) | (simp only [blk_nils, blk_sl] at hs ⊢; omega))) (by kernel_rfl) (by kernel_rfl)
      · skip
        refine Wo.pre 3 (by kernel_rfl) ?_
        refine Wo.pre 1 (by kernel_rfl) ?_
        refine Wo.pre 1 (by kernel_rfl) ?_
        refine Wo.nil ?_
        refine Wp.cond true (by kernel_rfl) ?_
        refine Wp.seq ?_
        refine Wp.region ?_
        refine Wo.pre 2 (by kernel_rfl) ?_
        refine Wo.nil ?_
        refine Wp.ret ?_
        exact hQ' _ _ (by exact takeF_ve hl ‹¬ vE l 3 = 0›) ((hF.trans X13.fr).mono (by intro s hb hs; first | omega | (dsimp only at hs ⊢; omega) | (simp only [blk_nils, blk_sl] at hs ⊢; omega))) (by kernel_rfl) (by kernel_rfl)

theorem takeOf_none {l : List UInt8} (h : takeF l.length 0 l = none) : takeOf l = ([], 5) := by
  have e : takeA l = none := h
  rw [takeOf, e]
theorem takeOf_some {l : List UInt8} {zs : List Ent} {rs : List Rec} (h : takeF l.length 0 l = some rs) (hz : recsE zs = rs) (hn : zs.length ≠ 0) : takeOf l = (recsE zs, 0) := by
  have e : takeA l = some rs := h
  subst hz
  cases zs with
  | nil => simp at hn
  | cons z zs => rw [takeOf, e]; rfl
theorem takeOf_empty {l : List UInt8} {zs : List Ent} {rs : List Rec} (h : takeF l.length 0 l = some rs) (hz : recsE zs = rs) (hn : zs.length = 0) : takeOf l = ([], 5) := by
  have e : takeA l = some rs := h
  subst hz
  obtain rfl := List.length_eq_zero_iff.1 hn
  rw [takeOf, e]; rfl

attribute [local irreducible] takeOf
set_option maxHeartbeats 8000000 in
theorem take66_run {h : H} {v : AV} {l : List UInt8} (hv : Bs h v l) (hl : l.length ≤ maxRow) : ∃ r h', Runs TF 66 [v] h r h' ∧ ∃ z xs E, r = .tup [z, .int .i64 E] ∧ Ext h h' ∧ OwE h.n h' z xs ∧ takeOf l = (recsE xs, E) := by
  refine Runs.ofP f66 rfl ?_
  have hmx : 200000000000000 = maxRow := rfl
  obtain ⟨p, h2, c2, rb, u, rfl, hrb, hR2, hX2, hu, hub⟩ := new_run hv hl
  have k2 := hX2.1
  have hu2 := hR2.bs.bd
  have m1 := hv.bq
  have k2 := hv.parts
  have m3 := hR2.bq
  have m4 := hu.bq
  have k5 := hu.parts
  have m6 := hX2.1
  refine Wp.seq ?_
  refine Wp.region ?_
  refine Wo.pre 2 (by kernel_rfl) ?_
  refine Wo.nil ?_
  refine Wp.seq ?_
  refine Wp.region ?_
  refine Wo.pre 1 (by kernel_rfl) ?_
  refine Wo.call (by kernel_rfl) (by kernel_rfl) c2 ?_
  clear c2
  refine Wo.pre 1 (by kernel_rfl) ?_
  refine Wo.nil ?_
  refine Wp.seq ?_
  refine Wp.region ?_
  refine Wo.pre 3 (by kernel_rfl) ?_
  refine Wo.nil ?_
  refine Wp.seq ?_
  refine Wp.region ?_
  refine Wo.pre 1 (by kernel_rfl) ?_
  refine Wo.nil ?_
  refine Wp.seq ?_
  refine Wp.block ?_
  refine take66_loop hR2.1 l.length l (Nat.le_refl _) hl h2 u .nils [] _ hR2 hu2 ⟨Nat.le_refl _, fun _ _ _ => rfl⟩ OwE.nil0 (by simp) (by kernel_rfl) (by kernel_rfl) (by kernel_rfl) (by kernel_rfl) _ ?_ ?_
  · intro ts' h' lV zs rs q1 q2 q3 q4 t0 t6
    have hE : Ext h h' := ⟨by have := q2.1; omega, fun k hk => by rw [q2.2 k (by omega) (by omega)]; exact hX2.2 k hk⟩
    have q5 : OwE h.n h' lV zs := q3.mono (by omega)
    show Wp TF _ _ _
    rw [laid_eq t0 [(6, lV)] (by simp [t6])]
    have m1 := hv.bq
    have k2 := hv.parts
    have m3 := hR2.bq
    have m4 := hu.bq
    have k5 := hu.parts
    have m6 := q3.bq
    have k7 := q3.parts
    have m8 := q5.bq
    have k9 := q5.parts
    have m10 := hX2.1
    have m11 := q2.1
    have m12 := hE.1
    refine Wp.seq ?_
    refine Wp.seq ?_
    refine Wp.region ?_
    refine Wo.pre 1 (by kernel_rfl) ?_
    refine Wo.val (.int .i64 (List.length (zs) : Nat)) h' (by kernel_rfl) (iop_lenS (v := lV) (by kernel_rfl) q5.es.lenS) ?_
    refine Wo.cmp (op := .eql) (x := IX.t 41) (y := IX.c (AV.int IntKind.i64 0)) (k := IntKind.i64) (a := ↑zs.length) (b := 0) ((↑zs.length : Int) = (0 : Int)) (by kernel_rfl) (by kernel_rfl) (by kernel_rfl) (by kernel_rfl) (by simp) (by kernel_rfl) (fun q13 => ?_) (fun q13 => ?_)
    · skip
      refine Wo.nil ?_
      refine Wp.cond true (by kernel_rfl) ?_
      refine Wp.seq ?_
      refine Wp.region ?_
      refine Wo.pre 2 (by kernel_rfl) ?_
      refine Wo.nil ?_
      refine Wp.ret ?_
      refine ⟨.inr rfl, (.tup [AV.nils, AV.int IntKind.i64 5]), (ret_many (res_tmp (by kernel_rfl) (res_tmp (by kernel_rfl) res_nil)) rfl), ?_⟩
      dsimp only
      exact ⟨.nils, [], 5, rfl, hE, OwE.nil0, (by (exact takeOf_empty q1 (by rw [q4]; rfl) (by omega)))⟩
    · skip
      refine Wo.nil ?_
      refine Wp.cond false (by kernel_rfl) ?_
      refine Wp.skip ?_
      refine Wp.seq ?_
      refine Wp.region ?_
      refine Wo.pre 3 (by kernel_rfl) ?_
      refine Wo.nil ?_
      refine Wp.ret ?_
      refine ⟨.inr rfl, (.tup [lV, AV.int IntKind.i64 0]), (ret_many (res_tmp (by kernel_rfl) (res_tmp (by kernel_rfl) res_nil)) rfl), ?_⟩
      dsimp only
      exact ⟨lV, zs, 0, rfl, hE, q5, (by (exact takeOf_some q1 (by rw [q4]; rfl) (by omega)))⟩
  · intro ts' h' q1 q2 t2 t3
    have hE : Ext h h' := ⟨by have := q2.1; omega, fun k hk => by rw [q2.2 k (by omega) (by omega)]; exact hX2.2 k hk⟩
    exact ⟨.inr rfl, .tup [.nils, .int .i64 5], ret_many (res_tmp (by rw [t2]; rfl) (res_tmp (by rw [t3]; rfl) res_nil)) rfl, .nils, [], 5, rfl, hE, OwE.nil0, takeOf_none q1⟩

theorem drop3 {B : List UInt8} {i : Nat} (h : i + 3 ≤ B.length) : ∃ b0 b1 b2, B[i]? = some b0 ∧ B[i + 1]? = some b1 ∧ B[i + 2]? = some b2 ∧ be ((B.drop i).take 3) = 65536 * b0.toNat + 256 * b1.toNat + b2.toNat := by
  refine ⟨B[i], B[i + 1], B[i + 2], List.getElem?_eq_getElem (by omega), List.getElem?_eq_getElem (by omega), List.getElem?_eq_getElem (by omega), ?_⟩
  rw [List.drop_eq_getElem_cons (by omega), List.drop_eq_getElem_cons (by omega), List.drop_eq_getElem_cons (by omega)]
  simp only [List.take_succ_cons, List.take_zero, be, List.foldl_cons, List.foldl_nil]
  show _ = 65536 * (B[i]).toNat + 256 * (B[i + 1]).toNat + (B[i + 1 + 1]).toNat
  omega
theorem vE_at {B : List UInt8} {i n : Nat} (hb : be ((B.drop i).take 3) = n) (h3 : i + 3 ≤ B.length) : vE (B.drop i) 3 = 0 ↔ i + 3 + n ≤ B.length := by
  rw [vE3_iff, hb, List.length_drop]; omega
theorem vX_at {B : List UInt8} {i n : Nat} (hb : be ((B.drop i).take 3) = n) (hv : vE (B.drop i) 3 = 0) : vX (B.drop i) 3 = (B.take (i + 3 + n)).drop (i + 3) ∧ vL (B.drop i) 3 = B.drop (i + 3 + n) := by
  rw [vX, if_pos hv, vL, if_pos hv, vN]
  show ((B.drop i).drop 3).take (be ((B.drop i).take 3)) = _ ∧ (B.drop i).drop (3 + be ((B.drop i).take 3)) = _
  rw [hb, List.drop_drop, List.drop_drop, List.drop_take]
  refine ⟨by congr 1; omega, by congr 1; omega⟩
theorem takeF_short {B : List UInt8} {i k n : Nat} (hi : i < B.length) (h : ¬ i + 3 ≤ B.length) : takeF (k + 1) n (B.drop i) = none := by
  refine takeF_ve (fun e => ?_) (fun e => ?_)
  · have := congrArg List.length e
    simp at this; omega
  · have := vE3_iff.1 e
    rw [List.length_drop] at this; omega

set_option maxHeartbeats 8000000 in
theorem rtake67_loop {h0 : H} {v : AV} {B : List UInt8} (hB0 : Bs h0 v B) (hok : Cok v) (hm : B.length ≤ maxRow) :
    ∀ (k i : Nat), (B.drop i).length ≤ k → i ≤ B.length → ∀ (h : H) (lV : AV) (ys : List Ent) (ts : List AV), Ext h0 h → OwE h0.n h lV ys → ys.length ≤ 16 → ts.length = 77 → getL ts 0 = some v → getL ts 4 = some lV → getL ts 5 = some (.int .i64 i) →
      ∀ (Q : Ex → St → Prop), (∀ ts' h' lV' zs rs, takeF k ys.length (B.drop i) = some rs → Ext h0 h' → OwE h0.n h' lV' zs → recsE zs = recsE ys ++ rs → ts'.length = 77 → getL ts' 4 = some lV' → Q (.exit 0) (ts', h')) → (∀ ts' h', takeF k ys.length (B.drop i) = none → Ext h0 h' → getL ts' 2 = some .nils → getL ts' 3 = some (.int .i64 5) → Q .ret (ts', h')) → Wp TF (.loop l67_1) (ts, h) Q := by
  have hmx : 200000000000000 = maxRow := rfl
  intro k
  induction k with
  | zero =>
    intro i hk hi h lV ys ts hE hO hy t0 tv t4 t5 Q hQ hQ'
    rw [List.length_drop] at hk
    have hB := hB0.ext hE
    have hd : B.drop i = [] := List.drop_eq_nil_of_le (by omega)
    rw [hd] at hQ
    refine Wp.loop ?_
    rw [laid_eq t0 [(0, v), (4, lV), (5, .int .i64 i)] (by simp [tv, t4, t5])]
    have m1 := hB0.bq
    have k2 := hB0.parts
    have m3 := hO.bq
    have k4 := hO.parts
    have m5 := hB.bq
    have k6 := hB.parts
    have m7 := hE.1
    refine Wp.seq ?_
    refine Wp.seq ?_
    refine Wp.region ?_
    refine Wo.pre 2 (by kernel_rfl) ?_
    refine Wo.val (.int .i64 (List.length (B) : Nat)) h (by kernel_rfl) (Bs.len hB (by kernel_rfl)) ?_
    refine Wo.cmp (op := .lss) (x := IX.t 9) (y := IX.t 11) (k := IntKind.i64) (a := ↑i) (b := ↑B.length) ((↑i : Int) < (↑B.length : Int)) (by kernel_rfl) (by kernel_rfl) (by kernel_rfl) (by kernel_rfl) (by simp) (by kernel_rfl) (fun q8 => ?_) (fun q8 => ?_)
    · (exfalso; omega)
    refine Wo.nil ?_
    refine Wp.cond false (by kernel_rfl) ?_
    refine Wp.exit ?_
    exact hQ _ _ lV ys [] (takeF_nil _ _) hE hO (by simp) (by kernel_rfl) (by kernel_rfl)
  | succ k ih =>
    intro i hk hi h lV ys ts hE hO hy t0 tv t4 t5 Q hQ hQ'
    have n0 := hE.1
    have hB := hB0.ext hE
    rw [List.length_drop] at hk
    by_cases hl : i = B.length
    · have hd : B.drop i = [] := List.drop_eq_nil_of_le (by omega)
      rw [hd] at hQ
      refine Wp.loop ?_
      rw [laid_eq t0 [(0, v), (4, lV), (5, .int .i64 i)] (by simp [tv, t4, t5])]
      have m1 := hB0.bq
      have k2 := hB0.parts
      have m3 := hO.bq
      have k4 := hO.parts
      have m5 := hB.bq
      have k6 := hB.parts
      have m7 := hE.1
      refine Wp.seq ?_
      refine Wp.seq ?_
      refine Wp.region ?_
      refine Wo.pre 2 (by kernel_rfl) ?_
      refine Wo.val (.int .i64 (List.length (B) : Nat)) h (by kernel_rfl) (Bs.len hB (by kernel_rfl)) ?_
      refine Wo.cmp (op := .lss) (x := IX.t 9) (y := IX.t 11) (k := IntKind.i64) (a := ↑i) (b := ↑B.length) ((↑i : Int) < (↑B.length : Int)) (by kernel_rfl) (by kernel_rfl) (by kernel_rfl) (by kernel_rfl) (by simp) (by kernel_rfl) (fun q8 => ?_) (fun q8 => ?_)
      · (exfalso; omega)
      refine Wo.nil ?_
      refine Wp.cond false (by kernel_rfl) ?_
      refine Wp.exit ?_
      exact hQ _ _ lV ys [] (takeF_nil _ _) hE hO (by simp) (by kernel_rfl) (by kernel_rfl)
    · by_cases h3 : i + 3 ≤ B.length
      · obtain ⟨b0, b1, b2, e0, e1, e2, hbe⟩ := drop3 h3
        obtain ⟨n, hn⟩ : ∃ n, 65536 * b0.toNat + 256 * b1.toNat + b2.toNat = n := ⟨_, rfl⟩
        have g0 : b0.toNat < 256 := b0.toNat_lt
        have g1 : b1.toNat < 256 := b1.toNat_lt
        have g2 : b2.toNat < 256 := b2.toNat_lt
        have hne : B.drop i ≠ [] := fun e => by have := congrArg List.length e; simp at this; omega
        have hve := vE_at hbe h3
        have hvx := vX_at hbe
        have hvr : ∀ R, recOf (List.drop (i + 3) (List.take (i + 3 + (65536 * b0.toNat + 256 * b1.toNat + b2.toNat)) B)) = R → i + 3 + (65536 * b0.toNat + 256 * b1.toNat + b2.toNat) ≤ B.length → recOf (vX (B.drop i) 3) = R := fun R e h => by rw [(hvx (hve.2 h)).1]; exact e
        have hvl : ∀ {m : Nat} (R : Option (List Rec)), i + 3 + (65536 * b0.toNat + 256 * b1.toNat + b2.toNat) ≤ B.length → takeF k m (B.drop (i + 3 + (65536 * b0.toNat + 256 * b1.toNat + b2.toNat))) = R → takeF k m (vL (B.drop i) 3) = R := fun R h e => by rw [(hvx (hve.2 h)).2]; exact e
        have hcl : (List.drop (i + 3) (List.take (i + 3 + (65536 * b0.toNat + 256 * b1.toNat + b2.toNat)) B)).length ≤ maxRow := by rw [List.length_drop, List.length_take]; omega
        rcases hB0 with ⟨rfl, rfl⟩ | ⟨a, c, rfl, ha, hla⟩
        · simp at h3
        have d0 : h.ldg ⟨a.b, a.g, a.o + i * 1⟩ none = some (.int .u8 b0.toNat) := by rw [Nat.mul_one]; exact hB.at e0
        have d1 : h.ldg ⟨a.b, a.g, a.o + (i + 1) * 1⟩ none = some (.int .u8 b1.toNat) := by rw [Nat.mul_one]; exact hB.at e1
        have d2 : h.ldg ⟨a.b, a.g, a.o + (i + 2) * 1⟩ none = some (.int .u8 b2.toNat) := by rw [Nat.mul_one]; exact hB.at e2
        refine Wp.loop ?_
        rw [laid_eq t0 [(0, .sl a B.length c), (4, lV), (5, .int .i64 i)] (by simp [tv, t4, t5])]
        have m1 := hO.bq
        have k2 := hO.parts
        have m3 := hB.bq
        have k4 := hB.parts
        have m5 := hE.1
        refine Wp.seq ?_
        refine Wp.seq ?_
        refine Wp.region ?_
        refine Wo.pre 3 (by kernel_rfl) ?_
        refine Wo.cmp (op := .lss) (x := IX.t 9) (y := IX.t 11) (k := IntKind.i64) (a := ↑i) (b := ↑B.length) ((↑i : Int) < (↑B.length : Int)) (by kernel_rfl) (by kernel_rfl) (by kernel_rfl) (by kernel_rfl) (by simp) (by kernel_rfl) (fun q6 => ?_) (fun q6 => ?_)
        rotate_left
        · (exfalso; omega)
        refine Wo.nil ?_
        refine Wp.cond true (by kernel_rfl) ?_
        refine Wp.skip ?_
        refine Wp.block ?_
        refine Wp.seq ?_
        refine Wp.seq ?_
        refine Wp.region ?_
        refine Wo.pre 3 (by kernel_rfl) ?_
        refine Wo.val (.int IntKind.i64 ((↑B.length : Int) - (↑i : Int))) h (by kernel_rfl) (iop_arith (op := .sub) (a := ↑B.length) (b := ↑i) (by kernel_rfl) (by kernel_rfl) (by simp) (bin_sub IntKind.i64 (by simp only [min_i64]; omega) (by simp only [max_i64]; omega))) ?_
        refine Wo.cmp (op := .lss) (x := IX.t 16) (y := IX.c (AV.int IntKind.i64 3)) (k := IntKind.i64) (a := ↑B.length - ↑i) (b := 3) ((↑B.length - ↑i : Int) < (3 : Int)) (by kernel_rfl) (by kernel_rfl) (by kernel_rfl) (by kernel_rfl) (by simp) (by kernel_rfl) (fun q7 => ?_) (fun q7 => ?_)
        · (exfalso; omega)
        refine Wo.pre 2 (by kernel_rfl) ?_
        refine Wo.val (.int .i64 (List.length (ys) : Nat)) h (by kernel_rfl) (iop_lenS (v := lV) (by kernel_rfl) hO.es.lenS) ?_
        refine Wo.cmp (op := .eql) (x := IX.t 20) (y := IX.c (AV.int IntKind.i64 16)) (k := IntKind.i64) (a := ↑ys.length) (b := 16) ((↑ys.length : Int) = (16 : Int)) (by kernel_rfl) (by kernel_rfl) (by kernel_rfl) (by kernel_rfl) (by simp) (by kernel_rfl) (fun q8 => ?_) (fun q8 => ?_)
        · skip
          refine Wo.pre 1 (by kernel_rfl) ?_
          refine Wo.nil ?_
          refine Wp.cond true (by kernel_rfl) ?_
          refine Wp.seq ?_
          refine Wp.region ?_
          refine Wo.pre 2 (by kernel_rfl) ?_
          refine Wo.nil ?_
          refine Wp.ret ?_
          exact hQ' _ _ (by exact takeF_sixteen hne (by omega)) (hE.fr.ext0) (by kernel_rfl) (by kernel_rfl)
        · skip
          refine Wo.pre 1 (by kernel_rfl) ?_
          refine Wo.nil ?_
          refine Wp.cond false (by kernel_rfl) ?_
          refine Wp.skip ?_
          refine Wp.seq ?_
          refine Wp.draw ?_
          refine Wd.pure (by kernel_rfl) (by kernel_rfl) ?_
          refine Wd.pure (by kernel_rfl) (by kernel_rfl) ?_
          refine Wd.make (.ptr ⟨(a : AA).b, (a : AA).g, (a : AA).o + i * 1⟩) h (by kernel_rfl) (by kernel_rfl) (iop_iaN (a := a) (n := B.length) (c := c) (ie := (↑i : Int)) (i := i) (by kernel_rfl) (by kernel_rfl) rfl (by first | omega | (simp; omega))) ?_
          refine Wd.read (AV.int IntKind.u8 ↑b0.toNat) (.ld (none) (.c (.ptr { b := a.b, g := a.g, o := a.o + i * 1 }))) (by kernel_rfl) (by kernel_rfl) (iop_ld (a := { b := a.b, g := a.g, o := a.o + i * 1 }) (by kernel_rfl) d0) ?_
          refine Wd.make (.int IntKind.i64 (↑b0.toNat)) h (by kernel_rfl) (by kernel_rfl) (iop_cvIfit (k := IntKind.i64) (kk := IntKind.u8) (a := ↑b0.toNat) (by kernel_rfl) (by simp only [min_i64]; omega) (by simp only [max_i64]; omega)) ?_
          refine Wd.make (.int IntKind.i64 ((65536 : Int) * (↑b0.toNat : Int))) h (by kernel_rfl) (by kernel_rfl) (iop_arith (op := .mul) (a := 65536) (b := ↑b0.toNat) (by kernel_rfl) (by kernel_rfl) (by simp) (bin_mul IntKind.i64 (by simp only [min_i64]; omega) (by simp only [max_i64]; omega))) ?_
          refine Wd.pure (by kernel_rfl) (by kernel_rfl) ?_
          refine Wd.pure (by kernel_rfl) (by kernel_rfl) ?_
          refine Wd.make (.int IntKind.i64 ((↑i : Int) + (1 : Int))) h (by kernel_rfl) (by kernel_rfl) (iop_arith (op := .add) (a := ↑i) (b := 1) (by kernel_rfl) (by kernel_rfl) (by simp) (bin_add IntKind.i64 (by simp only [min_i64]; omega) (by simp only [max_i64]; omega))) ?_
          refine Wd.make (.ptr ⟨(a : AA).b, (a : AA).g, (a : AA).o + (i + 1) * 1⟩) h (by kernel_rfl) (by kernel_rfl) (iop_iaN (a := a) (n := B.length) (c := c) (ie := (↑i + 1 : Int)) (i := (i + 1)) (by kernel_rfl) (by kernel_rfl) (by omega) (by first | omega | (simp; omega))) ?_
          refine Wd.read (AV.int IntKind.u8 ↑b1.toNat) (.ld (none) (.c (.ptr { b := a.b, g := a.g, o := a.o + (i + 1) * 1 }))) (by kernel_rfl) (by kernel_rfl) (iop_ld (a := { b := a.b, g := a.g, o := a.o + (i + 1) * 1 }) (by kernel_rfl) d1) ?_
          refine Wd.make (.int IntKind.i64 (↑b1.toNat)) h (by kernel_rfl) (by kernel_rfl) (iop_cvIfit (k := IntKind.i64) (kk := IntKind.u8) (a := ↑b1.toNat) (by kernel_rfl) (by simp only [min_i64]; omega) (by simp only [max_i64]; omega)) ?_
          refine Wd.make (.int IntKind.i64 ((256 : Int) * (↑b1.toNat : Int))) h (by kernel_rfl) (by kernel_rfl) (iop_arith (op := .mul) (a := 256) (b := ↑b1.toNat) (by kernel_rfl) (by kernel_rfl) (by simp) (bin_mul IntKind.i64 (by simp only [min_i64]; omega) (by simp only [max_i64]; omega))) ?_
          refine Wd.make (.int IntKind.i64 ((65536 * ↑b0.toNat : Int) + (256 * ↑b1.toNat : Int))) h (by kernel_rfl) (by kernel_rfl) (iop_arith (op := .add) (a := 65536 * ↑b0.toNat) (b := 256 * ↑b1.toNat) (by kernel_rfl) (by kernel_rfl) (by simp) (bin_add IntKind.i64 (by simp only [min_i64]; omega) (by simp only [max_i64]; omega))) ?_
          refine Wd.pure (by kernel_rfl) (by kernel_rfl) ?_
          refine Wd.pure (by kernel_rfl) (by kernel_rfl) ?_
          refine Wd.make (.int IntKind.i64 ((↑i : Int) + (2 : Int))) h (by kernel_rfl) (by kernel_rfl) (iop_arith (op := .add) (a := ↑i) (b := 2) (by kernel_rfl) (by kernel_rfl) (by simp) (bin_add IntKind.i64 (by simp only [min_i64]; omega) (by simp only [max_i64]; omega))) ?_
          refine Wd.make (.ptr ⟨(a : AA).b, (a : AA).g, (a : AA).o + (i + 2) * 1⟩) h (by kernel_rfl) (by kernel_rfl) (iop_iaN (a := a) (n := B.length) (c := c) (ie := (↑i + 2 : Int)) (i := (i + 2)) (by kernel_rfl) (by kernel_rfl) (by omega) (by first | omega | (simp; omega))) ?_
          refine Wd.read (AV.int IntKind.u8 ↑b2.toNat) (.ld (none) (.c (.ptr { b := a.b, g := a.g, o := a.o + (i + 2) * 1 }))) (by kernel_rfl) (by kernel_rfl) (iop_ld (a := { b := a.b, g := a.g, o := a.o + (i + 2) * 1 }) (by kernel_rfl) d2) ?_
          refine Wd.make (.int IntKind.i64 (↑b2.toNat)) h (by kernel_rfl) (by kernel_rfl) (iop_cvIfit (k := IntKind.i64) (kk := IntKind.u8) (a := ↑b2.toNat) (by kernel_rfl) (by simp only [min_i64]; omega) (by simp only [max_i64]; omega)) ?_
          refine Wd.make (.int IntKind.i64 ((65536 * ↑b0.toNat + 256 * ↑b1.toNat : Int) + (↑b2.toNat : Int))) h (by kernel_rfl) (by kernel_rfl) (iop_arith (op := .add) (a := 65536 * ↑b0.toNat + 256 * ↑b1.toNat) (b := ↑b2.toNat) (by kernel_rfl) (by kernel_rfl) (by simp) (bin_add IntKind.i64 (by simp only [min_i64]; omega) (by simp only [max_i64]; omega))) ?_
          refine Wd.pure (by kernel_rfl) (by kernel_rfl) ?_
          refine Wd.done (holds_of [(IOp.ld none (IX.c (AV.ptr { b := a.b, g := a.g, o := a.o + (i + 2) * 1 })), AV.int IntKind.u8 ↑b2.toNat, 18), (IOp.ld none (IX.c (AV.ptr { b := a.b, g := a.g, o := a.o + (i + 1) * 1 })), AV.int IntKind.u8 ↑b1.toNat, 10), (IOp.ld none (IX.c (AV.ptr { b := a.b, g := a.g, o := a.o + i * 1 })), AV.int IntKind.u8 ↑b0.toNat, 3)] (by kernel_rfl) (holds_and (rd_ld d2) (holds_and (rd_ld d1) (holds_and (rd_ld d0) rfl)))) ?_
          refine Wp.seq ?_
          refine Wp.seq ?_
          refine Wp.region ?_
          refine Wo.pre 3 (by kernel_rfl) ?_
          refine Wo.val (.int IntKind.i64 ((↑B.length : Int) - (↑i : Int))) h (by kernel_rfl) (iop_arith (op := .sub) (a := ↑B.length) (b := ↑i) (by kernel_rfl) (by kernel_rfl) (by simp) (bin_sub IntKind.i64 (by simp only [min_i64]; omega) (by simp only [max_i64]; omega))) ?_
          refine Wo.val (.int IntKind.i64 ((↑B.length - ↑i : Int) - (3 : Int))) h (by kernel_rfl) (iop_arith (op := .sub) (a := ↑B.length - ↑i) (b := 3) (by kernel_rfl) (by kernel_rfl) (by simp) (bin_sub IntKind.i64 (by simp only [min_i64]; omega) (by simp only [max_i64]; omega))) ?_
          refine Wo.pre 1 (by kernel_rfl) ?_
          refine Wo.cmp (op := .lss) (x := IX.t 48) (y := IX.t 49) (k := IntKind.i64) (a := ↑B.length - ↑i - 3) (b := 65536 * ↑b0.toNat + 256 * ↑b1.toNat + ↑b2.toNat) ((↑B.length - ↑i - 3 : Int) < (65536 * ↑b0.toNat + 256 * ↑b1.toNat + ↑b2.toNat : Int)) (by kernel_rfl) (by kernel_rfl) (by kernel_rfl) (by kernel_rfl) (by simp) (by kernel_rfl) (fun q9 => ?_) (fun q9 => ?_)
          · skip
            refine Wo.nil ?_
            refine Wp.cond true (by kernel_rfl) ?_
            refine Wp.seq ?_
            refine Wp.region ?_
            refine Wo.pre 2 (by kernel_rfl) ?_
            refine Wo.nil ?_
            refine Wp.ret ?_
            exact hQ' _ _ (by (exact takeF_ve hne (fun e => by have := hve.1 e; omega))) (hE.fr.ext0) (by kernel_rfl) (by kernel_rfl)
          · skip
            refine Wo.nil ?_
            refine Wp.cond false (by kernel_rfl) ?_
            refine Wp.skip ?_
            refine Wp.seq ?_
            refine Wp.region ?_
            refine Wo.pre 2 (by kernel_rfl) ?_
            refine Wo.val (.int IntKind.i64 ((↑i : Int) + (3 : Int))) h (by kernel_rfl) (iop_arith (op := .add) (a := ↑i) (b := 3) (by kernel_rfl) (by kernel_rfl) (by simp) (bin_add IntKind.i64 (by simp only [min_i64]; omega) (by simp only [max_i64]; omega))) ?_
            refine Wo.pre 1 (by kernel_rfl) ?_
            refine Wo.val (.int IntKind.i64 ((↑i : Int) + (3 : Int))) h (by kernel_rfl) (iop_arith (op := .add) (a := ↑i) (b := 3) (by kernel_rfl) (by kernel_rfl) (by simp) (bin_add IntKind.i64 (by simp only [min_i64]; omega) (by simp only [max_i64]; omega))) ?_
            refine Wo.pre 1 (by kernel_rfl) ?_
            refine Wo.val (.int IntKind.i64 ((↑i + 3 : Int) + (65536 * ↑b0.toNat + 256 * ↑b1.toNat + ↑b2.toNat : Int))) h (by kernel_rfl) (iop_arith (op := .add) (a := ↑i + 3) (b := 65536 * ↑b0.toNat + 256 * ↑b1.toNat + ↑b2.toNat) (by kernel_rfl) (by kernel_rfl) (by simp) (bin_add IntKind.i64 (by simp only [min_i64]; omega) (by simp only [max_i64]; omega))) ?_
            obtain ⟨z10, e10, b10, o10⟩ := hB.subN hok (ei := (↑i + 3 : Int)) (ej := (↑i + 3 + (65536 * ↑b0.toNat + 256 * ↑b1.toNat + ↑b2.toNat) : Int)) (i + 3) ((i + 3) + (((65536 * b0.toNat) + (256 * b1.toNat)) + b2.toNat)) (by omega) (by omega) (by first | omega | simp; omega) (by first | omega | simp; omega)
            refine Wo.val z10 h (by kernel_rfl) (e10 (by kernel_rfl) (by kernel_rfl) (by kernel_rfl)) ?_
            clear e10
            have m11 := b10.bq
            have k12 := b10.parts
            obtain ⟨r13, H14, c15, t16, z17, ps18, E19, rfl, X21, q22, q23, q24⟩ := rtakerecJ b10 o10 hcl
            have m25 := X21.1
            have m26 := q22.bq
            have k27 := q22.parts
            refine Wo.call (by kernel_rfl) (by kernel_rfl) c15 ?_
            clear c15
            refine Wo.pre 3 (by kernel_rfl) ?_
            obtain ⟨H28, e28, P28, X28, n28⟩ := pt_new H14 70 [AV.int IntKind.u64 0, AV.nils] (ones_cons rfl (ones_cons rfl ones_nil))
            refine Wo.val (.ptr ⟨H.n H14, 0, 0⟩) H28 (by kernel_rfl) (e28 (v := AV.agg [AV.int IntKind.u64 0, AV.nils]) (by kernel_rfl) rfl) ?_
            clear e28
            have m29 := X28.1
            obtain ⟨H30, e30, P30, X30, n30⟩ := P28.st 0 [AV.int IntKind.u64 ↑t16, z17] (by simp) (ones_cons rfl (ones_cons k27.2.1 ones_nil))
            refine Wo.val .undef H30 (by kernel_rfl) (iop_stP (a := { b := H14.n, g := 0, o := 0 }) (v := AV.agg [AV.int IntKind.u64 ↑t16, z17]) (vs := [AV.int IntKind.u64 ↑t16, z17]) (by kernel_rfl) (by kernel_rfl) rfl rfl e30) ?_
            have m31 := X30.1
            replace P30 : Pt H30 H14.n (Blk.cells 0 70 [AV.int IntKind.u64 ↑t16, z17] 0 false) := P30
            refine Wo.pre 1 (by kernel_rfl) ?_
            refine Wo.nil ?_
            refine Wp.seq ?_
            refine Wp.seq ?_
            refine Wp.region ?_
            refine Wo.pre 1 (by kernel_rfl) ?_
            refine Wo.cmpN (op := .neq) (x := IX.t 63) (y := IX.c (AV.int IntKind.i64 0)) (k := IntKind.i64) (a := E19) (b := 0) ((E19 : Int) = (0 : Int)) (by kernel_rfl) (by kernel_rfl) (by kernel_rfl) (by kernel_rfl) (by simp) (by kernel_rfl) (fun q32 => ?_) (fun q32 => ?_)
            · skip
              have m33 := P28.1
              have m34 := P30.1
              refine Wo.nil ?_
              refine Wp.cond false (by kernel_rfl) ?_
              refine Wp.skip ?_
              refine Wp.seq ?_
              refine Wp.region ?_
              refine Wo.pre 1 (by kernel_rfl) ?_
              refine Wo.val (AV.agg [AV.int IntKind.u64 ↑t16, z17]) H30 (by kernel_rfl) (iop_ldP P30 (a := { b := H14.n, g := 0, o := 0 }) (by kernel_rfl) rfl (by kernel_rfl)) ?_
              obtain ⟨H35, e35, P35, X35, n35⟩ := bsl_new H30 70 [AV.int IntKind.u64 ↑t16, z17] (ones_cons rfl (ones_cons k27.2.1 ones_nil))
              refine Wo.val (.sl ⟨H.n H30, 0, 0⟩ 1 (.ex 1)) H35 (by kernel_rfl) (e35 (fill_cons (v := AV.agg [AV.int IntKind.u64 ↑t16, z17]) (vs := [AV.int IntKind.u64 ↑t16, z17]) (by kernel_rfl) rfl (by kernel_rfl) rfl)) ?_
              clear e35
              have m36 := X35.1
              have F37 := (hO.fr (((X21.fr.trans0 X28).transL X30).transR X35) (by have d0 := m1.1.e; (first | omega | (intro s hs; omega) | (dsimp only; omega) | (intro s hs; dsimp only at hs; omega) | (simp only [blk_nils, blk_sl]; omega) | (intro s hs; simp only [blk_nils, blk_sl] at hs ⊢; omega) | (simp; done))))
              have F38 := (q22.fr ((X28.transL X30).transR X35) (by have d0 := m26.1.e; (first | omega | (intro s hs; omega) | (dsimp only; omega) | (intro s hs; dsimp only at hs; omega) | (simp only [blk_nils, blk_sl]; omega) | (intro s hs; simp only [blk_nils, blk_sl] at hs ⊢; omega) | (simp; done))))
              obtain ⟨v39, H40, a41, q42, X43⟩ := app70_one (lo := h0.n) (lo2 := h.n) (hi2 := H14.n) (b := H30.n) (t := t16) P35 F37 F38 q24 (by first | omega | (simp; omega) | (simp; done) | assumption) n0 (by first | omega | (simp; omega) | (simp; done) | assumption)
              refine Wo.val _ _ (by kernel_rfl) (iop_appG (v := lV) (w := AV.sl { b := H30.n, g := 0, o := 0 } 1 (Cp.ex 1)) (by kernel_rfl) (by kernel_rfl) rfl a41) ?_
              have m44 := q42.bq
              have k45 := q42.parts
              have m46 := X43.1
              refine Wo.pre 1 (by kernel_rfl) ?_
              refine Wo.nil ?_
              refine Wp.region ?_
              refine Wo.pre 1 (by kernel_rfl) ?_
              refine Wo.val (.int IntKind.i64 ((↑i : Int) + (3 : Int))) H40 (by kernel_rfl) (iop_arith (op := .add) (a := ↑i) (b := 3) (by kernel_rfl) (by kernel_rfl) (by simp) (bin_add IntKind.i64 (by simp only [min_i64]; omega) (by simp only [max_i64]; omega))) ?_
              refine Wo.pre 1 (by kernel_rfl) ?_
              refine Wo.val (.int IntKind.i64 ((↑i + 3 : Int) + (65536 * ↑b0.toNat + 256 * ↑b1.toNat + ↑b2.toNat : Int))) H40 (by kernel_rfl) (iop_arith (op := .add) (a := ↑i + 3) (b := 65536 * ↑b0.toNat + 256 * ↑b1.toNat + ↑b2.toNat) (by kernel_rfl) (by kernel_rfl) (by simp) (bin_add IntKind.i64 (by simp only [min_i64]; omega) (by simp only [max_i64]; omega))) ?_
              refine Wo.pre 1 (by kernel_rfl) ?_
              refine Wo.nil ?_
              exact ih (i + 3 + (65536 * b0.toNat + 256 * b1.toNat + b2.toNat)) (by rw [List.length_drop]; omega) (by omega) _ _ _ _ ((((((hE.fr.trans0 X21.fr).trans0 X28).transL X30).transR X35).trans X43).ext (by have d0 := m1.1.e; intro s hs; first | omega | (dsimp only at hs; omega) | (simp only [blk_nils, blk_sl] at hs ⊢; omega))) q42 (by ((rw [List.length_append]; simp only [List.length_cons, List.length_nil]; omega))) (by kernel_rfl) (by kernel_rfl) (by kernel_rfl) (by kernel_rfl) Q (fun ts' h' lV' zs rs q1 q2 q3 q4 q5 q6 => hQ ts' h' lV' zs _ (takeF_goS hne (hve.2 (by omega)) ‹¬ _ = (16 : Int)› (hvr _ ‹recOf _ = _› (by omega)) ‹_ = (0 : Int)› (hvl _ (by omega) q1)) q2 q3 (recs_go q4) q5 q6) (fun ts' h' q1 q2 q3 q4 => hQ' ts' h' (takeF_goN hne (hve.2 (by omega)) ‹¬ _ = (16 : Int)› (hvr _ ‹recOf _ = _› (by omega)) ‹_ = (0 : Int)› (hvl _ (by omega) q1)) q2 q3 q4)
            · skip
              have m47 := P28.1
              have m48 := P30.1
              refine Wo.nil ?_
              refine Wp.cond true (by kernel_rfl) ?_
              refine Wp.seq ?_
              refine Wp.region ?_
              refine Wo.pre 2 (by kernel_rfl) ?_
              refine Wo.nil ?_
              refine Wp.ret ?_
              exact hQ' _ _ (by exact takeF_norec hne (hve.2 (by omega)) (by omega) (hvr _ ‹recOf _ = _› (by omega)) ‹¬ _ = (0 : Int)›) ((((hE.fr.trans0 X21.fr).trans0 X28).transL X30).ext (by intro s hs; first | omega | (dsimp only at hs; omega) | (simp only [blk_nils, blk_sl] at hs ⊢; omega))) (by kernel_rfl) (by kernel_rfl)
      · refine Wp.loop ?_
        rw [laid_eq t0 [(0, v), (4, lV), (5, .int .i64 i)] (by simp [tv, t4, t5])]
        have m1 := hB0.bq
        have k2 := hB0.parts
        have m3 := hO.bq
        have k4 := hO.parts
        have m5 := hB.bq
        have k6 := hB.parts
        have m7 := hE.1
        refine Wp.seq ?_
        refine Wp.seq ?_
        refine Wp.region ?_
        refine Wo.pre 2 (by kernel_rfl) ?_
        refine Wo.val (.int .i64 (List.length (B) : Nat)) h (by kernel_rfl) (Bs.len hB (by kernel_rfl)) ?_
        refine Wo.cmp (op := .lss) (x := IX.t 9) (y := IX.t 11) (k := IntKind.i64) (a := ↑i) (b := ↑B.length) ((↑i : Int) < (↑B.length : Int)) (by kernel_rfl) (by kernel_rfl) (by kernel_rfl) (by kernel_rfl) (by simp) (by kernel_rfl) (fun q8 => ?_) (fun q8 => ?_)
        rotate_left
        · (exfalso; omega)
        refine Wo.nil ?_
        refine Wp.cond true (by kernel_rfl) ?_
        refine Wp.skip ?_
        refine Wp.block ?_
        refine Wp.seq ?_
        refine Wp.seq ?_
        refine Wp.region ?_
        refine Wo.pre 1 (by kernel_rfl) ?_
        refine Wo.val (.int .i64 (List.length (B) : Nat)) h (by kernel_rfl) (Bs.len hB (by kernel_rfl)) ?_
        refine Wo.pre 1 (by kernel_rfl) ?_
        refine Wo.val (.int IntKind.i64 ((↑B.length : Int) - (↑i : Int))) h (by kernel_rfl) (iop_arith (op := .sub) (a := ↑B.length) (b := ↑i) (by kernel_rfl) (by kernel_rfl) (by simp) (bin_sub IntKind.i64 (by simp only [min_i64]; omega) (by simp only [max_i64]; omega))) ?_
        refine Wo.cmp (op := .lss) (x := IX.t 16) (y := IX.c (AV.int IntKind.i64 3)) (k := IntKind.i64) (a := ↑B.length - ↑i) (b := 3) ((↑B.length - ↑i : Int) < (3 : Int)) (by kernel_rfl) (by kernel_rfl) (by kernel_rfl) (by kernel_rfl) (by simp) (by kernel_rfl) (fun q9 => ?_) (fun q9 => ?_)
        rotate_left
        · (exfalso; omega)
        refine Wo.pre 3 (by kernel_rfl) ?_
        refine Wo.pre 1 (by kernel_rfl) ?_
        refine Wo.pre 1 (by kernel_rfl) ?_
        refine Wo.nil ?_
        refine Wp.cond true (by kernel_rfl) ?_
        refine Wp.seq ?_
        refine Wp.region ?_
        refine Wo.pre 2 (by kernel_rfl) ?_
        refine Wo.nil ?_
        refine Wp.ret ?_
        exact hQ' _ _ (by exact takeF_short (by omega) h3) (hE.fr.ext0) (by kernel_rfl) (by kernel_rfl)

set_option maxHeartbeats 8000000 in
theorem rtake67_run {h : H} {v : AV} {l : List UInt8} (hv : Bs h v l) (hok : Cok v) (hl : l.length ≤ maxRow) : ∃ r h', Runs TF 67 [v] h r h' ∧ ∃ z xs E, r = .tup [z, .int .i64 E] ∧ Ext h h' ∧ OwE h.n h' z xs ∧ takeOf l = (recsE xs, E) := by
  refine Runs.ofP f67 rfl ?_
  have hmx : 200000000000000 = maxRow := rfl
  refine Wp.seq (Wp.region (Wo.pre 2 (by kernel_rfl) (Wo.nil ?_)))
  refine Wp.seq (Wp.region (Wo.pre 1 (by kernel_rfl) (Wo.nil ?_)))
  refine Wp.seq (Wp.seq (Wp.region (Wo.pre 1 (by kernel_rfl) (Wo.nil (Wp.block ?_)))))
  refine rtake67_loop hv hok hl l.length 0 (Nat.le_refl _) (Nat.zero_le _) h .nils [] _ (Ext.refl _) OwE.nil0 (by simp) (by kernel_rfl) (by kernel_rfl) (by kernel_rfl) (by kernel_rfl) _ ?_ ?_
  · intro ts' h' lV zs rs q1 hE q5 q4 t0 t6
    show Wp TF _ _ _
    rw [laid_eq t0 [(4, lV)] (by simp [t6])]
    have m1 := hv.bq
    have k2 := hv.parts
    have m3 := q5.bq
    have k4 := q5.parts
    have m5 := hE.1
    refine Wp.seq ?_
    refine Wp.seq ?_
    refine Wp.region ?_
    refine Wo.pre 1 (by kernel_rfl) ?_
    refine Wo.val (.int .i64 (List.length (zs) : Nat)) h' (by kernel_rfl) (iop_lenS (v := lV) (by kernel_rfl) q5.es.lenS) ?_
    refine Wo.cmp (op := .eql) (x := IX.t 74) (y := IX.c (AV.int IntKind.i64 0)) (k := IntKind.i64) (a := ↑zs.length) (b := 0) ((↑zs.length : Int) = (0 : Int)) (by kernel_rfl) (by kernel_rfl) (by kernel_rfl) (by kernel_rfl) (by simp) (by kernel_rfl) (fun q6 => ?_) (fun q6 => ?_)
    · skip
      refine Wo.nil ?_
      refine Wp.cond true (by kernel_rfl) ?_
      refine Wp.seq ?_
      refine Wp.region ?_
      refine Wo.pre 2 (by kernel_rfl) ?_
      refine Wo.nil ?_
      refine Wp.ret ?_
      refine ⟨.inr rfl, (.tup [AV.nils, AV.int IntKind.i64 5]), (ret_many (res_tmp (by kernel_rfl) (res_tmp (by kernel_rfl) res_nil)) rfl), ?_⟩
      dsimp only
      exact ⟨.nils, [], 5, rfl, hE, OwE.nil0, (by (exact takeOf_empty q1 (by rw [q4]; rfl) (by omega)))⟩
    · skip
      refine Wo.nil ?_
      refine Wp.cond false (by kernel_rfl) ?_
      refine Wp.skip ?_
      refine Wp.seq ?_
      refine Wp.region ?_
      refine Wo.pre 3 (by kernel_rfl) ?_
      refine Wo.nil ?_
      refine Wp.ret ?_
      refine ⟨.inr rfl, (.tup [lV, AV.int IntKind.i64 0]), (ret_many (res_tmp (by kernel_rfl) (res_tmp (by kernel_rfl) res_nil)) rfl), ?_⟩
      dsimp only
      exact ⟨lV, zs, 0, rfl, hE, q5, (by (exact takeOf_some q1 (by rw [q4]; rfl) (by omega)))⟩
  · intro ts' h' q1 hE t2 t3
    exact ⟨.inr rfl, .tup [.nils, .int .i64 5], ret_many (res_tmp (by rw [t2]; rfl) (res_tmp (by rw [t3]; rfl) res_nil)) rfl, .nils, [], 5, rfl, hE, OwE.nil0, takeOf_none q1⟩

end Go.Det

/- Entries' rows are spoiled: the walk. -/
set_option linter.unusedVariables false
set_option linter.unusedSimpArgs false
set_option linter.unusedSectionVars false
namespace Go.Det
open Go.Proofs
attribute [local irreducible] Wp Wo Wd iop ev slots quiets wanted put

def xor8 (c d : UInt8) : UInt8 := b8 ((BitVec.ofInt 8 c.toNat ^^^ BitVec.ofInt 8 d.toNat).toNat : Int)
theorem iop_xor8 {x y : IX} {ρ : IX → AV} {h : H} {c d : UInt8} (hx : ρ x = .int .u8 c.toNat) (hy : ρ y = .int .u8 d.toNat) : iop (.bin .xor x y) ρ h = some (.val (.int .u8 (xor8 c d).toNat) h) := by
  simp only [iop, hx, hy, binop, binInt, if_true, wrap_u8, xor8, IntKind.bits, Option.map_some]
  rfl
theorem RowK.spoilt {lo hi : Nat} {h0 h : H} {v : AV} {cs : List AV} (o : RowK lo h0 v cs) (hS : SpoiltI lo hi h0 h) : RowK lo h v cs := by
  refine o.imp id ?_
  rintro ⟨b, g, c, h1, h2, h3, h4⟩
  exact ⟨b, g, c, h1, by rw [hS.1]; exact h2, by rw [hS.2 b (.inr (.inr (fun g c e => by rw [h3] at e; simp at e)))]; exact h3, h4⟩

theorem rowE_z {xs : List Ent} {i : Nat} {e : Ent} (hp : xs[i]? = some e) : getL (rowE xs) (i * 2 + 1) = some e.z := by
  have h := congrArg (fun l => l[1]?) (rowE_at hp)
  simp only [Ent.cells, List.getElem?_cons_succ, List.getElem?_cons_zero] at h
  rw [List.getElem?_take_of_lt (by omega), List.getElem?_drop] at h
  rw [getL_eq]; exact h

set_option maxHeartbeats 8000000 in
theorem spoil15_1 {h0 : H} {lo hi i n : Nat} {rs : List (AV × List UInt8)} {a : AA} {q : Cp} {z s0 s1 s5 s6 s15 : AV} {ps : List (AV × List UInt8)} (hin : i < n) (he : ∀ h, SpoiltI lo hi h0 h → h.ldg ⟨a.b, a.g, a.o + i * 2 + 1⟩ none = some z) (hz : RowK lo h0 z (ps.map (·.1))) (hsub : ∀ p ∈ ps, p ∈ rs ∧ Go.Det.blk p.1 ≤ hi ∧ p.2 ≠ []) (hfew : ps.length < 2 ^ 62) :
    ∀ (k j : Nat), j + k = ps.length → ∀ (h : H) (ts : List AV), SpoiltI lo hi h0 h → (∀ p ∈ rs, ∃ l', l'.length = p.2.length ∧ Ow lo h p.1 l') → ts.length = 106 → getL ts 0 = some s0 → getL ts 1 = some s1 → getL ts 5 = some s5 → getL ts 6 = some s6 → getL ts 11 = some (.sl a n q) → getL ts 15 = some s15 → getL ts 16 = some (.int .i64 i) → getL ts 17 = some (.int .i64 j) →
      ∀ (Q : Ex → St → Prop), (∀ ts' h', SpoiltI lo hi h0 h' → (∀ p ∈ rs, ∃ l', l'.length = p.2.length ∧ Ow lo h' p.1 l') → ts'.length = 106 → getL ts' 0 = some s0 → getL ts' 1 = some s1 → getL ts' 5 = some s5 → getL ts' 6 = some s6 → getL ts' 11 = some (.sl a n q) → getL ts' 15 = some s15 → getL ts' 16 = some (.int .i64 i) → Q (.exit 2) (ts', h')) → Wp TF (.loop l15_1) (ts, h) Q := by
  have hmx : 200000000000000 = maxRow := rfl
  intro k
  induction k with
  | zero =>
    intro j hj h ts hS hr t0 g0 g1 g5 g6 g11 g15 g16 g17 Q hQ
    obtain rfl : j = ps.length := by omega
    have hld1 := he h hS
    refine Wp.loop ?_
    rw [laid_eq t0 [(0, s0), (1, s1), (5, s5), (6, s6), (11, .sl a n q), (15, s15), (16, .int .i64 i), (17, .int .i64 ps.length)] (by simp [g0, g1, g5, g6, g11, g15, g16, g17])]
    rcases hz with ⟨rfl, e⟩ | ⟨b, g, c, _, _, _, rfl, _⟩
    · have e2 : ps.length = 0 := by have := congrArg List.length e; simpa using this
      refine Wp.seq ?_
      refine Wp.seq ?_
      refine Wp.region ?_
      refine Wo.pre 3 (by kernel_rfl) ?_
      refine Wo.val (.ptr ⟨(a : AA).b, (a : AA).g, (a : AA).o + i * 2⟩) h (by kernel_rfl) (iop_iaN (a := a) (n := n) (c := q) (ie := (↑i : Int)) (i := i) (by kernel_rfl) (by kernel_rfl) rfl (by first | omega | (simp; omega))) ?_
      refine Wo.pre 1 (by kernel_rfl) ?_
      refine Wo.val (AV.nils) h (by kernel_rfl) (iop_ld (a := { b := a.b, g := a.g, o := a.o + i * 2 + 1 }) (by kernel_rfl) hld1) ?_
      refine Wo.pre 1 (by kernel_rfl) ?_
      refine Wo.cmp (op := .lss) (x := IX.t 68) (y := IX.t 74) (k := IntKind.i64) (a := ↑ps.length) (b := 0) ((↑ps.length : Int) < (0 : Int)) (by kernel_rfl) (by kernel_rfl) (by kernel_rfl) (by kernel_rfl) (by simp) (by kernel_rfl) (fun q1 => ?_) (fun q1 => ?_)
      · (exfalso; omega)
      refine Wo.nil ?_
      refine Wp.cond false (by kernel_rfl) ?_
      refine Wp.exit ?_
      exact hQ _ _ hS hr (by kernel_rfl) (by kernel_rfl) (by kernel_rfl) (by kernel_rfl) (by kernel_rfl) (by kernel_rfl) (by kernel_rfl) (by kernel_rfl)
    · have e2 : (List.map (fun x : AV × List UInt8 => x.1) ps).length = ps.length := List.length_map _
      refine Wp.seq ?_
      refine Wp.seq ?_
      refine Wp.region ?_
      refine Wo.pre 3 (by kernel_rfl) ?_
      refine Wo.val (.ptr ⟨(a : AA).b, (a : AA).g, (a : AA).o + i * 2⟩) h (by kernel_rfl) (iop_iaN (a := a) (n := n) (c := q) (ie := (↑i : Int)) (i := i) (by kernel_rfl) (by kernel_rfl) rfl (by first | omega | (simp; omega))) ?_
      refine Wo.pre 1 (by kernel_rfl) ?_
      refine Wo.val (AV.sl { b := b, g := g, o := 0 } (List.map (fun x => x.fst) ps).length c) h (by kernel_rfl) (iop_ld (a := { b := a.b, g := a.g, o := a.o + i * 2 + 1 }) (by kernel_rfl) hld1) ?_
      refine Wo.pre 1 (by kernel_rfl) ?_
      refine Wo.cmp (op := .lss) (x := IX.t 68) (y := IX.t 74) (k := IntKind.i64) (a := ↑ps.length) (b := ↑(List.map (fun x => x.fst) ps).length) ((↑ps.length : Int) < (↑(List.map (fun x => x.fst) ps).length : Int)) (by kernel_rfl) (by kernel_rfl) (by kernel_rfl) (by kernel_rfl) (by simp) (by kernel_rfl) (fun q1 => ?_) (fun q1 => ?_)
      · (exfalso; omega)
      refine Wo.nil ?_
      refine Wp.cond false (by kernel_rfl) ?_
      refine Wp.exit ?_
      exact hQ _ _ hS hr (by kernel_rfl) (by kernel_rfl) (by kernel_rfl) (by kernel_rfl) (by kernel_rfl) (by kernel_rfl) (by kernel_rfl) (by kernel_rfl)
  | succ k ih =>
    intro j hj h ts hS hr t0 g0 g1 g5 g6 g11 g15 g16 g17 Q hQ
    have hlt : j < ps.length := by omega
    obtain ⟨⟨p1, p2⟩, hp⟩ : ∃ p, ps[j]? = some p := ⟨ps[j], List.getElem?_eq_getElem hlt⟩
    have hmem := List.mem_of_getElem? hp
    obtain ⟨hpr, hbk, hne⟩ := hsub _ hmem
    obtain ⟨l', hl', ho⟩ := hr _ hpr
    have hld1 := he h hS
    obtain ⟨bk, gg, hsx, hst⟩ := spoilI_step hS hr hl' hbk ho
    have hpos : l'.length ≠ 0 := by rw [hl']; exact fun e => hne (List.length_eq_zero_iff.1 e)
    rcases hz.spoilt hS with ⟨rfl, e⟩ | ⟨b, g, c, h1, h2, h3, rfl, h4⟩
    · have e2 : ps.length = 0 := by have := congrArg List.length e; simpa using this
      omega
    · have e2 : (List.map (fun x : AV × List UInt8 => x.1) ps).length = ps.length := List.length_map _
      obtain ⟨A, hA⟩ : ∃ A : AA, A = ⟨b, g, 0⟩ := ⟨_, rfl⟩
      have hld2 : h.ldg ⟨A.b, A.g, A.o + j * 1⟩ none = some p1 := by rw [hA]; simp [H.ldg, H.ld, H.row, h3, getL_eq, hp]
      rw [← hA] at hld1
      obtain ⟨⟨cc, e⟩, r, hrl, hg⟩ := hsx.resolve_left hpos
      dsimp only at e
      subst e
      have hrl' : r.length ≠ 0 := by omega
      obtain ⟨c0, r', rfl⟩ : ∃ c0 r', r = c0 :: r' := by
        cases r with
        | nil => simp at hrl'
        | cons c0 r' => exact ⟨c0, r', rfl⟩
      have hld3 : h.ldg ⟨bk, gg, 0⟩ none = some (.int .u8 c0.toNat) := by simp [H.ldg, H.ld, H.row, hg, get_byte]
      obtain ⟨h1', hh1⟩ : ∃ h1', h1' = h.set bk (.cells gg 5 (bytesAV ((c0 :: r').set 0 (xor8 c0 1))) 0 false) := ⟨_, rfl⟩
      have hstt := st_byte hg (k := 0) (by simp) (xor8 c0 1)
      rw [← hh1] at hstt
      obtain ⟨hS1, hr1⟩ := hst h1' (by rw [hh1]; rfl) (fun b hb => by rw [hh1]; exact h.get_set_ne _ b _ hb) (.inr ⟨(c0 :: r').set 0 (xor8 c0 1), by rw [List.length_set]; exact hrl, by rw [hh1]; exact h.get_set _ _⟩) (fun e => absurd e hpos)
      refine Wp.loop ?_
      rw [laid_eq t0 [(0, s0), (1, s1), (5, s5), (6, s6), (11, .sl a n q), (15, s15), (16, .int .i64 i), (17, .int .i64 j)] (by simp [g0, g1, g5, g6, g11, g15, g16, g17])]
      have m1 := ho.bq
      have k2 := ho.parts
      refine Wp.seq ?_
      refine Wp.seq ?_
      refine Wp.region ?_
      refine Wo.pre 3 (by kernel_rfl) ?_
      refine Wo.val (.ptr ⟨(a : AA).b, (a : AA).g, (a : AA).o + i * 2⟩) h (by kernel_rfl) (iop_iaN (a := a) (n := n) (c := q) (ie := (↑i : Int)) (i := i) (by kernel_rfl) (by kernel_rfl) rfl (by first | omega | (simp; omega))) ?_
      refine Wo.pre 1 (by kernel_rfl) ?_
      refine Wo.val (AV.sl A (List.map (fun x => x.fst) ps).length c) h (by kernel_rfl) (iop_ld (a := { b := a.b, g := a.g, o := a.o + i * 2 + 1 }) (by kernel_rfl) hld1) ?_
      refine Wo.pre 1 (by kernel_rfl) ?_
      refine Wo.cmp (op := .lss) (x := IX.t 68) (y := IX.t 74) (k := IntKind.i64) (a := ↑j) (b := ↑(List.map (fun x => x.fst) ps).length) ((↑j : Int) < (↑(List.map (fun x => x.fst) ps).length : Int)) (by kernel_rfl) (by kernel_rfl) (by kernel_rfl) (by kernel_rfl) (by simp) (by kernel_rfl) (fun q3 => ?_) (fun q3 => ?_)
      rotate_left
      · (exfalso; omega)
      refine Wo.nil ?_
      refine Wp.cond true (by kernel_rfl) ?_
      refine Wp.skip ?_
      refine Wp.seq ?_
      refine Wp.block ?_
      refine Wp.region ?_
      refine Wo.pre 2 (by kernel_rfl) ?_
      refine Wo.val (.ptr ⟨(a : AA).b, (a : AA).g, (a : AA).o + i * 2⟩) h (by kernel_rfl) (iop_iaN (a := a) (n := n) (c := q) (ie := (↑i : Int)) (i := i) (by kernel_rfl) (by kernel_rfl) rfl (by first | omega | (simp; omega))) ?_
      refine Wo.pre 1 (by kernel_rfl) ?_
      refine Wo.val (AV.sl A (List.map (fun x => x.fst) ps).length c) h (by kernel_rfl) (iop_ld (a := { b := a.b, g := a.g, o := a.o + i * 2 + 1 }) (by kernel_rfl) hld1) ?_
      refine Wo.pre 1 (by kernel_rfl) ?_
      refine Wo.val (.ptr ⟨(A : AA).b, (A : AA).g, (A : AA).o + j * 1⟩) h (by kernel_rfl) (iop_iaN (a := A) (n := (List.map (fun x => x.fst) ps).length) (c := c) (ie := (↑j : Int)) (i := j) (by kernel_rfl) (by kernel_rfl) rfl (by first | omega | (simp; omega))) ?_
      refine Wo.val (AV.sl { b := bk, g := gg, o := 0 } l'.length cc) h (by kernel_rfl) (iop_ld (a := { b := A.b, g := A.g, o := A.o + j * 1 }) (by kernel_rfl) hld2) ?_
      refine Wo.val (.ptr ⟨({ b := bk, g := gg, o := 0 } : AA).b, ({ b := bk, g := gg, o := 0 } : AA).g, ({ b := bk, g := gg, o := 0 } : AA).o + 0 * 1⟩) h (by kernel_rfl) (iop_iaN (a := { b := bk, g := gg, o := 0 }) (n := l'.length) (c := cc) (ie := (0 : Int)) (i := 0) (by kernel_rfl) (by kernel_rfl) rfl (by first | omega | (simp; omega))) ?_
      refine Wo.val (AV.int IntKind.u8 ↑c0.toNat) h (by kernel_rfl) (iop_ld (a := { b := bk, g := gg, o := 0 }) (by kernel_rfl) hld3) ?_
      refine Wo.val (.int .u8 (xor8 c0 1).toNat) h (by kernel_rfl) (iop_xor8 (c := c0) (d := 1) (by kernel_rfl) (by kernel_rfl)) ?_
      refine Wo.val (.ptr ⟨({ b := bk, g := gg, o := 0 } : AA).b, ({ b := bk, g := gg, o := 0 } : AA).g, ({ b := bk, g := gg, o := 0 } : AA).o + 0 * 1⟩) h (by kernel_rfl) (iop_iaN (a := { b := bk, g := gg, o := 0 }) (n := l'.length) (c := cc) (ie := (0 : Int)) (i := 0) (by kernel_rfl) (by kernel_rfl) rfl (by first | omega | (simp; omega))) ?_
      refine Wo.val .undef h1' (by kernel_rfl) (iop_st1 (a := ⟨bk, gg, 0⟩) (v := .int .u8 (xor8 c0 1).toNat) (by kernel_rfl) (by kernel_rfl) rfl hstt) ?_
      refine Wo.nil ?_
      refine Wp.region ?_
      refine Wo.pre 1 (by kernel_rfl) ?_
      refine Wo.val (.int IntKind.i64 ((↑j : Int) + (1 : Int))) h1' (by kernel_rfl) (iop_arith (op := .add) (a := ↑j) (b := 1) (by kernel_rfl) (by kernel_rfl) (by simp) (bin_add IntKind.i64 (by simp only [min_i64]; omega) (by simp only [max_i64]; omega))) ?_
      refine Wo.pre 1 (by kernel_rfl) ?_
      refine Wo.nil ?_
      exact ih (j + 1) (by omega) _ _ hS1 hr1 (by kernel_rfl) (by kernel_rfl) (by kernel_rfl) (by kernel_rfl) (by kernel_rfl) (by kernel_rfl) (by kernel_rfl) (by kernel_rfl) (by kernel_rfl) Q hQ

set_option maxHeartbeats 8000000 in
theorem spoil15_2 {h0 : H} {lo hi ab ag : Nat} {q : Cp} {s0 s1 s5 s6 s15 : AV} {xs : List Ent} (hrow : h0.get ab = some (.cells ag 70 (rowE xs) 0 false)) (hel : ∀ e ∈ xs, OwnK lo h0 e.z e.ps) (hbd : ∀ e ∈ xs, ∀ p ∈ e.ps, Go.Det.blk p.1 ≤ hi) (hmay : ∀ e ∈ xs, mayE e.ps = true) (hfew : xs.length ≤ 16) :
    ∀ (k i : Nat), i + k = xs.length → ∀ (h : H) (ts : List AV), SpoiltI lo hi h0 h → (∀ p ∈ (xs.map (·.ps)).flatten, ∃ l', l'.length = p.2.length ∧ Ow lo h p.1 l') → ts.length = 106 → getL ts 0 = some s0 → getL ts 1 = some s1 → getL ts 5 = some s5 → getL ts 6 = some s6 → getL ts 11 = some (.sl ⟨ab, ag, 0⟩ xs.length q) → getL ts 15 = some s15 → getL ts 16 = some (.int .i64 i) →
      ∀ (Q : Ex → St → Prop), (∀ ts' h', Fr (fun s => lo < s ∧ s ≤ hi) h0 h' → ts'.length = 106 → getL ts' 0 = some s0 → getL ts' 1 = some s1 → getL ts' 5 = some s5 → getL ts' 6 = some s6 → getL ts' 15 = some s15 → Q (.exit 0) (ts', h')) → Wp TF (.loop l15_2) (ts, h) Q := by
  have hmx : 200000000000000 = maxRow := rfl
  intro k
  induction k with
  | zero =>
    intro i hi' h ts hS hr t0 g0 g1 g5 g6 g11 g15 g16 Q hQ
    obtain rfl : i = xs.length := by omega
    have hF : Fr (fun s => lo < s ∧ s ≤ hi) h0 h := ⟨by rw [hS.1]; exact Nat.le_refl _, fun k hk hs => hS.2 k (by omega)⟩
    refine Wp.loop ?_
    rw [laid_eq t0 [(0, s0), (1, s1), (5, s5), (6, s6), (11, .sl ⟨ab, ag, 0⟩ xs.length q), (15, s15), (16, .int .i64 xs.length)] (by simp [g0, g1, g5, g6, g11, g15, g16])]
    have m1 := hF.1
    refine Wp.seq ?_
    refine Wp.seq ?_
    refine Wp.region ?_
    refine Wo.pre 3 (by kernel_rfl) ?_
    refine Wo.cmp (op := .lss) (x := IX.t 62) (y := IX.t 64) (k := IntKind.i64) (a := ↑xs.length) (b := ↑xs.length) ((↑xs.length : Int) < (↑xs.length : Int)) (by kernel_rfl) (by kernel_rfl) (by kernel_rfl) (by kernel_rfl) (by simp) (by kernel_rfl) (fun q2 => ?_) (fun q2 => ?_)
    · (exfalso; omega)
    refine Wo.nil ?_
    refine Wp.cond false (by kernel_rfl) ?_
    refine Wp.exit ?_
    exact hQ _ _ hF (by kernel_rfl) (by kernel_rfl) (by kernel_rfl) (by kernel_rfl) (by kernel_rfl) (by kernel_rfl)
  | succ k ih =>
    intro i hi' h ts hS hr t0 g0 g1 g5 g6 g11 g15 g16 Q hQ
    have hlt : i < xs.length := by omega
    obtain ⟨e, hp⟩ : ∃ e, xs[i]? = some e := ⟨xs[i], List.getElem?_eq_getElem hlt⟩
    have hmem := List.mem_of_getElem? hp
    have hsm := mayE_small (hmay e hmem)
    have he : ∀ h, SpoiltI lo hi h0 h → h.ldg ⟨ab, ag, 0 + i * 2 + 1⟩ none = some e.z := by
      intro h hS
      have hg : h.get ab = some (.cells ag 70 (rowE xs) 0 false) := by rw [hS.2 ab (.inr (.inr (fun g c e => by rw [hrow] at e; simp at e)))]; exact hrow
      simp only [H.ldg, H.ld, H.row, hg, BEq.rfl, Bool.not_false, Bool.true_or, Bool.and_self, if_true, Nat.zero_add, rowE_z hp]
    have hsub : ∀ p ∈ e.ps, p ∈ (xs.map (·.ps)).flatten ∧ Go.Det.blk p.1 ≤ hi ∧ p.2 ≠ [] := fun p hpm => ⟨List.mem_flatten.2 ⟨e.ps, List.mem_map_of_mem hmem, hpm⟩, hbd e hmem p hpm, fun e0 => by
      have hms : mayS (says e.ps) = true := by rw [← may_says]; exact hmay e hmem
      have := (mayS_small hms).2.2 p.2 (List.mem_map_of_mem hpm)
      rw [e0] at this; simp at this⟩
    refine Wp.loop ?_
    rw [laid_eq t0 [(0, s0), (1, s1), (5, s5), (6, s6), (11, .sl ⟨ab, ag, 0⟩ xs.length q), (15, s15), (16, .int .i64 i)] (by simp [g0, g1, g5, g6, g11, g15, g16])]
    refine Wp.seq ?_
    refine Wp.seq ?_
    refine Wp.region ?_
    refine Wo.pre 3 (by kernel_rfl) ?_
    refine Wo.cmp (op := .lss) (x := IX.t 62) (y := IX.t 64) (k := IntKind.i64) (a := ↑i) (b := ↑xs.length) ((↑i : Int) < (↑xs.length : Int)) (by kernel_rfl) (by kernel_rfl) (by kernel_rfl) (by kernel_rfl) (by simp) (by kernel_rfl) (fun q1 => ?_) (fun q1 => ?_)
    rotate_left
    · (exfalso; omega)
    refine Wo.nil ?_
    refine Wp.cond true (by kernel_rfl) ?_
    refine Wp.skip ?_
    refine Wp.seq ?_
    refine Wp.block ?_
    refine Wp.seq ?_
    refine Wp.region ?_
    refine Wo.pre 1 (by kernel_rfl) ?_
    refine Wo.nil ?_
    refine Wp.block ?_
    refine spoil15_1 (s0 := s0) (s1 := s1) (s5 := s5) (s6 := s6) (s15 := s15) (a := ⟨ab, ag, 0⟩) (q := q) (n := xs.length) hlt he (hel e hmem).row hsub (by have := hsm.1.1; omega) e.ps.length 0 (by omega) h _ hS hr (by kernel_rfl) (by kernel_rfl) (by kernel_rfl) (by kernel_rfl) (by kernel_rfl) (by kernel_rfl) (by kernel_rfl) (by kernel_rfl) (by kernel_rfl) _ ?_
    intro ts' h' hS' hr' t0' g0' g1' g5' g6' g11' g15' g16'
    rw [laid_eq t0' [(0, s0), (1, s1), (5, s5), (6, s6), (11, .sl ⟨ab, ag, 0⟩ xs.length q), (15, s15), (16, .int .i64 i)] (by simp [g0', g1', g5', g6', g11', g15', g16'])]
    show Wp TF _ _ _
    refine Wp.region ?_
    refine Wo.pre 1 (by kernel_rfl) ?_
    refine Wo.val (.int IntKind.i64 ((↑i : Int) + (1 : Int))) h' (by kernel_rfl) (iop_arith (op := .add) (a := ↑i) (b := 1) (by kernel_rfl) (by kernel_rfl) (by simp) (bin_add IntKind.i64 (by simp only [min_i64]; omega) (by simp only [max_i64]; omega))) ?_
    refine Wo.pre 1 (by kernel_rfl) ?_
    refine Wo.nil ?_
    exact ih (i + 1) (by omega) _ _ hS' hr' (by kernel_rfl) (by kernel_rfl) (by kernel_rfl) (by kernel_rfl) (by kernel_rfl) (by kernel_rfl) (by kernel_rfl) (by kernel_rfl) Q hQ
end Go.Det

/- Functions of the program in the form that the deterministic machine runs. -/
set_option maxRecDepth 100000
namespace Go.Det
open Go.Proofs
end Go.Det

/- Names of bundles: the loops. -/
set_option linter.unusedVariables false
set_option linter.unusedSimpArgs false
set_option linter.unusedSectionVars false
namespace Go.Det
open Go.Proofs
attribute [local irreducible] Wp Wo Wd iop ev slots quiets wanted put

/-- The last digits of a number. -/
def digs (n : Nat) : Nat → List UInt8
  | 0 => []
  | i + 1 => UInt8.ofNat (48 + n / 10 ^ i % 10) :: digs n i
/-- A bundle's name while its number is laid down. -/
def arr (n j : Nat) : List UInt8 := [98, 45] ++ (List.replicate (6 - j) 48 ++ (digs n j ++ [45, 48, 48]))
end Go.Det

/- Names of bundles, laid down. -/
set_option linter.unusedVariables false
set_option linter.unusedSimpArgs false
set_option linter.unusedSectionVars false
namespace Go.Det
open Go.Proofs
attribute [local irreducible] Wp Wo Wd iop ev slots quiets wanted put

end Go.Det

/- Names of bundles, read. -/
set_option linter.unusedVariables false
set_option linter.unusedSimpArgs false
set_option linter.unusedSectionVars false
namespace Go.Det
open Go.Proofs
attribute [local irreducible] Wp Wo Wd iop ev slots quiets wanted put

def val (l : List UInt8) : Nat := l.foldl (fun a c => 10 * a + (c.toNat - 48)) 0
end Go.Det

/- Names of bundles, read: both ways. The law BundleNames. -/
set_option linter.unusedVariables false
set_option linter.unusedSimpArgs false
set_option linter.unusedSectionVars false
namespace Go.Det
open Go.Proofs
attribute [local irreducible] Wp Wo Wd iop ev slots quiets wanted put

end Go.Det

/- Names of bundles, read by the reference; the law BundleNames. -/
set_option linter.unusedVariables false
set_option linter.unusedSimpArgs false
set_option linter.unusedSectionVars false
namespace Go.Det
open Go.Proofs
attribute [local irreducible] Wp Wo Wd iop ev slots quiets wanted put

theorem wakes_run (h : H) : Runs TF 62 [] h (.bool true) h := Runs.known (by kernel_rfl) h

end Go.Det

/- Names of bundles, both ways: the plain law. -/
set_option linter.unusedVariables false
set_option linter.unusedSimpArgs false
set_option linter.unusedSectionVars false
namespace Go.Det
open Go.Proofs

end Go.Det

/- Bundles joined and cut off: the plain law. -/
set_option linter.unusedVariables false
set_option linter.unusedSimpArgs false
set_option linter.unusedSectionVars false
namespace Go.Det
open Go.Proofs

end Go.Det

