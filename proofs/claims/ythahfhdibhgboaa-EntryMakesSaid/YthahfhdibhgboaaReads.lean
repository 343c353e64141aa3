/- The law WireReads: rows of calls of a reader are answered as the document says. -/
import Derived.Test.YthahfhdibhgboaaRefR
import Derived.Test.YthahfhdibhgboaaDetStart
set_option linter.unusedVariables false
set_option linter.unusedSimpArgs false
set_option linter.unusedSectionVars false
namespace Go.Det
open Go.Proofs
attribute [local irreducible] Wp Wo Wd iop ev slots quiets wanted put

theorem flat_at {α : Type} {sz : Nat} : ∀ {cc : List (List α)} {j : Nat} {c : List α}, (∀ c ∈ cc, c.length = sz) → cc[j]? = some c → (cc.flatten.drop (j * sz)).take sz = c
  | [], j, c, _, h => by simp at h
  | x :: cc, 0, c, hl, h => by
    simp only [List.getElem?_cons_zero, Option.some.injEq] at h
    subst h
    have := hl x (by simp)
    simp [← this]
  | x :: cc, j + 1, c, hl, h => by
    have hx := hl x (by simp)
    have ih := flat_at (cc := cc) (j := j) (fun c hc => hl c (by simp [hc])) (by simpa using h)
    rw [List.flatten_cons, Nat.succ_mul, Nat.add_comm, ← List.drop_drop, List.drop_append_of_le_length (by omega), ← hx, List.drop_length, List.nil_append, hx]
    exact ih

theorem ldn_elem {h : H} {a : AA} {sz n : Nat} {cc : List (List AV)} (hl : h.ldn a (n * sz) = some cc.flatten) (hn : cc.length = n) (hs : ∀ c ∈ cc, c.length = sz) {j : Nat} {c : List AV} (hj : cc[j]? = some c) : h.ldn ⟨a.b, a.g, a.o + j * sz⟩ sz = some c := by
  have hlt : j < n := by rw [← hn]; exact (List.getElem?_eq_some_iff.1 hj).1
  have h1 : (j + 1) * sz ≤ n * sz := Nat.mul_le_mul_right _ hlt
  rw [Nat.succ_mul] at h1
  have := ldn_take (ldn_drop hl (n := j * sz) (by omega)) (n := sz) (by omega)
  rw [flat_at hs hj] at this
  exact this

/-- A slice of structs, element by element. -/
theorem KSl.elem {α : Type} {R : H → α → List AV → Prop} {sz : Nat} {h : H} {xs : List α} {v : AV} (hk : KSl R sz h xs [v]) (hlen : ∀ x c, R h x c → c.length = sz) :
    (v = .nils ∧ xs = []) ∨ ∃ a c, v = .sl a xs.length (.ex c) ∧ xs.length ≤ c ∧ a.b < h.n ∧ ∀ (j : Nat) (x : α), xs[j]? = some x → ∃ c, R h x c ∧ h.ldn ⟨a.b, a.g, a.o + j * sz⟩ sz = some c := by
  obtain ⟨v', e, hv⟩ := hk
  simp only [List.cons.injEq, and_true] at e
  subst e
  rcases hv with h0 | ⟨a, c, rfl, h1, h2, cc, h3, h4, h5⟩
  · exact .inl h0
  · refine .inr ⟨a, c, rfl, h1, h2, fun j x hj => ?_⟩
    have hs : ∀ c ∈ cc, c.length = sz := by
      intro c hc
      obtain ⟨i, hi⟩ := List.getElem?_of_mem hc
      have hlt : i < xs.length := by rw [← h4]; exact (List.getElem?_eq_some_iff.1 hi).1
      obtain ⟨c', g1, g2⟩ := h5 i xs[i] (List.getElem?_eq_getElem hlt)
      rw [hi] at g1
      cases g1
      exact hlen _ _ g2
    obtain ⟨c', g1, g2⟩ := h5 j x hj
    exact ⟨c', g2, ldn_elem h3 h4 hs g1⟩

theorem iop_ia {x y : IX} {ρ : IX → AV} {h : H} {a : AA} {n : Nat} {c : Cp} {s i : Nat} (hx : ρ x = .sl a n c) (hy : ρ y = .int .i64 i) (hi : i < n) : iop (.ia s x y) ρ h = some (.val (.ptr ⟨a.b, a.g, a.o + i * s⟩) h) := by
  have h1 : (i : Int) < n := by omega
  simp [iop, hx, hy, asI, h1, hi]

theorem iop_stA {x y : IX} {ρ : IX → AV} {h h' : H} {a : AA} {cs : List AV} {n : Nat} (hx : ρ x = .ptr a) (hy : ρ y = .agg cs) (hn : cs.length = n) (hs : h.st a cs = some h') : iop (.st n x y) ρ h = some (.val .undef h') := by
  have e : (AV.agg cs).cells = cs := rfl
  simp only [iop, hx, hy, e, hn, BEq.rfl, if_true, hs, Option.map_some]

theorem Rd.keep {h h' : H} {rb : Nat} {v : AV} {L : List UInt8} (hR : Rd h rb v L) (hn : h.n ≤ h'.n) (h1 : h'.get rb = h.get rb) (h2 : ∀ a n c, v = .sl a n c → h'.get a.b = h.get a.b) : Rd h' rb v L := by
  refine ⟨Nat.lt_of_lt_of_le hR.1 hn, by rw [h1]; exact hR.2.1, ?_, hR.2.2.2⟩
  rcases hR.2.2.1 with h0 | ⟨a, c, e, e2, e3⟩
  · exact .inl h0
  · exact .inr ⟨a, c, e, Nat.lt_of_lt_of_le e2 hn, by rw [ldn_same (h2 _ _ _ e)]; exact e3⟩
theorem RRd.keep {h h' : H} {rb : Nat} {v : AV} {L : List UInt8} (hR : RRd h rb v L) (hn : h.n ≤ h'.n) (h1 : h'.get rb = h.get rb) (h2 : ∀ a n c, v = .sl a n c → h'.get a.b = h.get a.b) : RRd h' rb v L := by
  refine ⟨Nat.lt_of_lt_of_le hR.1 hn, by rw [h1]; exact hR.2.1, ?_, hR.2.2.2⟩
  rcases hR.2.2.1 with h0 | ⟨a, c, e, e2, e3⟩
  · exact .inl h0
  · exact .inr ⟨a, c, e, Nat.lt_of_lt_of_le e2 hn, by rw [ldn_same (h2 _ _ _ e)]; exact e3⟩
theorem rdL_len (l : List UInt8) (n : Int) : (rdL l n).length ≤ l.length := by unfold rdL; split <;> simp
theorem vL_len (l : List UInt8) (n : Int) : (vL l n).length ≤ l.length := by unfold vL; split <;> simp
theorem tL_len (l : List UInt8) (n : Int) : (tL l n).length ≤ l.length := by unfold tL; split <;> simp
theorem vX_len (l : List UInt8) (n : Int) : (vX l n).length ≤ l.length := by unfold vX; split <;> simp [List.length_take, List.length_drop]; omega
theorem tX_len (l : List UInt8) (n : Int) : (tX l n).length ≤ l.length := by unfold tX; split <;> simp [List.length_take]; omega

/-- What holds at each call: both readers have the same row left. -/
structure Two (lo rb sb : Nat) (acts : List (Int × Int)) (ab : AA) (h : H) (L : List UInt8) : Prop where
  ex : ∃ v w, Rd h rb v L ∧ RRd h sb w L ∧ (∀ a n c, v = .sl a n c → a.b < rb) ∧ (∀ a n c, w = .sl a n c → rb < a.b ∧ a.b < sb)
  lt : rb < sb
  lob : lo ≤ rb
  len : L.length ≤ maxRow
  act : ∀ (j : Nat) (x : Int × Int), acts[j]? = some x → h.ldn ⟨ab.b, ab.g, ab.o + j * 2⟩ 2 = some [.int .i64 x.1, .int .i64 x.2]
  abn : acts ≠ [] → ab.b < lo

theorem Two.next {lo rb sb : Nat} {acts : List (Int × Int)} {ab : AA} {h h' : H} {L L' : List UInt8} {v w v' w' : AV} (hT : Two lo rb sb acts ab h L) (hR : Rd h rb v L) (hS : RRd h sb w L) (hv : ∀ a n c, v = .sl a n c → a.b < rb) (hw : ∀ a n c, w = .sl a n c → rb < a.b ∧ a.b < sb)
    (hR' : Rd h' rb v' L') (hS' : RRd h' sb w' L') (sv : SB v v') (sw : SB w w') (keep : ∀ b, b < h.n → b ≠ rb → b ≠ sb → h'.get b = h.get b) (hl : L'.length ≤ L.length) : Two lo rb sb acts ab h' L' := by
  refine ⟨⟨v', w', hR', hS', ?_, ?_⟩, hT.lt, hT.lob, Nat.le_trans hl hT.len, ?_, hT.abn⟩
  · intro a n c e
    obtain ⟨a0, n0, c0, e0, q⟩ := sv a n c e
    rw [← q]; exact hv _ _ _ e0
  · intro a n c e
    obtain ⟨a0, n0, c0, e0, q⟩ := sw a n c e
    rw [← q]; exact hw _ _ _ e0
  · intro j x hj
    have hne : acts ≠ [] := by intro e; rw [e] at hj; simp at hj
    have h1 := hT.abn hne
    have h2 := hT.lob
    have h3 := hT.lt
    have h4 := hR.1
    have hk : h'.get (AA.b ⟨ab.b, ab.g, ab.o + j * 2⟩) = h.get (AA.b ⟨ab.b, ab.g, ab.o + j * 2⟩) := keep ab.b (by omega) (by omega) (by omega)
    rw [ldn_same hk]
    exact hT.act j x hj

/-- A state at the head of the round. -/
def At4 (rb sb : Nat) (xl : AV) (n i : Nat) (ts : List AV) : Prop := ts.length = 136 ∧ getL ts 6 = some (.ptr ⟨rb, 0, 0⟩) ∧ getL ts 7 = some (.ptr ⟨sb, 0, 0⟩) ∧ getL ts 39 = some xl ∧ getL ts 40 = some (.int .i64 n) ∧ getL ts 41 = some (.int .i64 i)

set_option maxHeartbeats 4000000 in
theorem reads_loop {lo rb sb : Nat} {acts : List (Int × Int)} {ab : AA} {cc : Cp} (hmx : acts.length < 2 ^ 62) :
    ∀ (k i : Nat), i + k = acts.length → ∀ (h : H) (L : List UInt8) (ts : List AV) (xl : AV), (acts ≠ [] → xl = .sl ab acts.length cc) → Two lo rb sb acts ab h L → At4 rb sb xl acts.length i ts →
      ∀ (Q : Ex → St → Prop), (∀ ts' h', ts'.length = 136 → Q (.exit 2) (ts', h')) → Wp TF (.loop l4_2) (ts, h) Q := by
  intro k
  induction k with
  | zero =>
    intro i hi h L ts xl hxl hT hA Q hQ
    obtain ⟨t0, t6, t7, t39, t40, t41⟩ := hA
    obtain rfl : i = acts.length := by omega
    refine Wp.loop ?_
    rw [laid_eq t0 [(6, .ptr ⟨rb, 0, 0⟩), (7, .ptr ⟨sb, 0, 0⟩), (39, xl), (40, .int .i64 acts.length), (41, .int .i64 acts.length)] (by simp [t6, t7, t39, t40, t41])]
    unfold l4_2
    refine Wp.seq ?_
    refine Wp.region ?_
    refine Wo.pre 8 (by kernel_rfl) ?_
    refine Wo.nil ?_
    refine Wp.seq ?_
    refine Wp.cond (decide ((acts.length : Int) < (acts.length : Int))) (by kernel_rfl) ?_
    rw [if_neg (by simp)]
    exact Wp.exit (hQ _ _ (by kernel_rfl))
  | succ k ih =>
    intro i hi h L ts xl hxl hT hA Q hQ
    obtain ⟨t0, t6, t7, t39, t40, t41⟩ := hA
    have hlt : i < acts.length := by omega
    have hne : acts ≠ [] := by intro e; rw [e] at hlt; simp at hlt
    obtain rfl := hxl hne
    obtain ⟨⟨what, n⟩, hx⟩ : ∃ x, acts[i]? = some x := ⟨acts[i], List.getElem?_eq_getElem hlt⟩
    have hact := hT.act i _ hx
    have habn := hT.abn hne
    have w1 : IntKind.i64.wrap ((i : Int) + 1) = ((i + 1 : Nat) : Int) := by rw [i64_fit _ (by omega)]; omega
    obtain ⟨v, w, hR, hS, hv, hw⟩ := hT.ex
    have hrs := hT.lt
    have hlo := hT.lob
    obtain ⟨H1, hH1⟩ : ∃ H1, H1 = h.new (.cells 0 42 [.int .i64 0, .int .i64 0] 0 false) := ⟨_, rfl⟩
    obtain ⟨H2, hH2⟩ : ∃ H2, H2 = H1.set h.n (.cells 0 42 [.int .i64 what, .int .i64 n] 0 false) := ⟨_, rfl⟩
    have g1 : H1.get h.n = some (.cells 0 42 [.int .i64 0, .int .i64 0] 0 false) := by rw [hH1]; exact h.get_new _
    have g2 : H2.get h.n = some (.cells 0 42 [.int .i64 what, .int .i64 n] 0 false) := by rw [hH2, H1.get_set]
    have n2 : H2.n = h.n + 1 := by rw [hH2, hH1]; rfl
    have X2 : Ext h H2 := ⟨by omega, fun b hb => by rw [hH2, H1.get_set_ne _ b _ (by omega), hH1]; exact h.get_new_ne b _ (by omega)⟩
    have st2 : H1.st ⟨h.n, 0, 0⟩ [.int .i64 what, .int .i64 n] = some H2 := by
      unfold H.st
      simp only [g1]
      rw [if_pos (by simp [AV.one]), hH2]
      rfl
    have Ld : ∀ (k : H), k.get h.n = some (.cells 0 42 [.int .i64 what, .int .i64 n] 0 false) → k.ldg ⟨h.n, 0, 0⟩ none = some (.int .i64 what) ∧ k.ldg ⟨h.n, 0, 1⟩ none = some (.int .i64 n) := fun k hk => by simp [H.ldg, H.ld, H.row, hk, getL]
    have hact2 : h.ldg ⟨ab.b, ab.g, ab.o + i * 2⟩ (some 2) = some (.agg [.int .i64 what, .int .i64 n]) := by simp [H.ldg, hact]
    have hR2 := hR.ext X2
    have hS2 : RRd H2 sb w L := ⟨Nat.lt_of_lt_of_le hS.1 X2.1, by rw [X2.2 _ hS.1]; exact hS.2.1, hS.2.2.1.ext X2, hS.2.2.2⟩
    have rbn := hR.1
    have sbn := hS.1
    refine Wp.loop ?_
    rw [laid_eq t0 [(6, .ptr ⟨rb, 0, 0⟩), (7, .ptr ⟨sb, 0, 0⟩), (39, .sl ab acts.length cc), (40, .int .i64 acts.length), (41, .int .i64 i)] (by simp [t6, t7, t39, t40, t41])]
    unfold l4_2
    refine Wp.seq ?_
    refine Wp.region ?_
    refine Wo.pre 8 (by kernel_rfl) ?_
    refine Wo.nil ?_
    refine Wp.seq ?_
    refine Wp.cond (decide ((i : Int) < (acts.length : Int))) (by kernel_rfl) ?_
    rw [if_pos (by simp; omega)]
    have enew : ∀ ts, iop (.new 42 (.c (.agg [.int .i64 0, .int .i64 0]))) (ev ts) h = some (.val (.ptr ⟨h.n, 0, 0⟩) H1) := fun ts => by rw [hH1]; exact iop_new (by kernel_rfl) rfl
    refine Wp.skip ?_
    refine Wp.seq ?_
    refine Wp.block ?_
    refine Wp.seq ?_
    refine Wp.region ?_
    refine Wo.val _ h (by kernel_rfl) (iop_ia (a := ab) (n := acts.length) (c := cc) (i := i) (by kernel_rfl) (by kernel_rfl) hlt) ?_
    refine Wo.val (.agg [.int .i64 what, .int .i64 n]) h (by kernel_rfl) (iop_ld (a := ⟨ab.b, ab.g, ab.o + i * 2⟩) (by kernel_rfl) hact2) ?_
    refine Wo.val _ _ (by kernel_rfl) (enew _) ?_
    refine Wo.val .undef H2 (by kernel_rfl) (iop_stA (a := ⟨h.n, 0, 0⟩) (by kernel_rfl) (by kernel_rfl) rfl st2) ?_
    refine Wo.nil ?_
    refine Wp.seq ?_
    refine Wp.seq ?_
    refine Wp.region ?_
    refine Wo.pre 1 (by kernel_rfl) ?_
    refine Wo.val (.int .i64 what) H2 (by kernel_rfl) (iop_ld (a := ⟨h.n, 0, 0⟩) (by kernel_rfl) (Ld H2 g2).1) ?_
    refine Wo.nil ?_
    refine Wp.mono (Q := fun e s => e = .normal ∧ ∃ L', Two lo rb sb acts ab s.2 L' ∧ At4 rb sb (.sl ab acts.length cc) acts.length i s.1) ?_ ?_
    rotate_left
    · rintro e ⟨ts2, k2⟩ ⟨rfl, L', hT2, hA2⟩
      have hA2 : At4 rb sb (.sl ab acts.length cc) acts.length i ts2 := hA2
      obtain ⟨u0, u6, u7, u39, u40, u41⟩ := hA2
      obtain ⟨v2, w2, hR', hS', hv', hw'⟩ := hT2.ex
      have m0 := hS'.ld
      have lf := left_run hR'
      have hT2' : Two lo rb sb acts ab k2 L' := hT2
      have hp : Pend.holds [(.ld none (.c (.ptr ⟨sb, 0, 0⟩)), w2, 5)] k2 = true := holds_and (rd_ld m0) rfl
      rw [laid_eq u0 [(6, .ptr ⟨rb, 0, 0⟩), (7, .ptr ⟨sb, 0, 0⟩), (39, .sl ab acts.length cc), (40, .int .i64 acts.length), (41, .int .i64 i)] (by simp [u6, u7, u39, u40, u41])]
      refine Wp.seq ?_
      refine Wp.draw ?_
      refine Wd.pure (by kernel_rfl) (by kernel_rfl) ?_
      refine Wd.pure (by kernel_rfl) (by kernel_rfl) ?_
      refine Wd.pure (by kernel_rfl) (by kernel_rfl) ?_
      refine Wd.pure (by kernel_rfl) (by kernel_rfl) ?_
      refine Wd.read w2 (.ld none (.c (.ptr ⟨sb, 0, 0⟩))) (by kernel_rfl) (by kernel_rfl) (iop_ld (a := ⟨sb, 0, 0⟩) (by kernel_rfl) m0) ?_
      refine Wd.make (.int .i64 L'.length) k2 (by kernel_rfl) (by kernel_rfl) (hS'.2.2.1.len (by kernel_rfl)) ?_
      refine Wd.call (by kernel_rfl) (by kernel_rfl) lf (holds_of _ (by kernel_rfl) hp) ?_
      refine Wd.make (.bool false) k2 (by kernel_rfl) (by kernel_rfl) (iop_neB (k := .i64) (a := L'.length) (b := L'.length) false (by kernel_rfl) (by kernel_rfl) (by simp)) ?_
      refine Wd.done (holds_of _ (by kernel_rfl) hp) ?_
      refine Wp.cond false (by kernel_rfl) ?_
      refine Wp.skip ?_
      refine Wp.region ?_
      refine Wo.pre 8 (by kernel_rfl) ?_
      refine Wo.nil ?_
      refine ih (i + 1) (by omega) k2 L' _ _ (fun _ => rfl) hT2' ⟨(by kernel_rfl), (by kernel_rfl), (by kernel_rfl), (by kernel_rfl), (by kernel_rfl), by rw [← w1]; kernel_rfl⟩ Q hQ
    by_cases h0 : what = 0
    · obtain ⟨h3, v3, c1, R3, x3, sb3⟩ := rdnum_any hR2 n hT.len
      have S3 : RRd h3 sb w L := hS2.keep x3.1 (x3.2 _ (by omega) (by omega)) (fun a n c e => x3.2 _ (by have := hw a n c e; omega) (by have := hw a n c e; omega))
      obtain ⟨h4, w4, c2, S4, x4, sb4⟩ := rrnum_any S3 n hT.len
      have R4 : Rd h4 rb v3 (rdL L n) := R3.keep x4.1 (x4.2 _ (by have := x3.1; omega) (by omega)) (fun a n c e => by
        obtain ⟨a0, n0, c0, e0, q⟩ := sb3 a n c e
        have := hv _ _ _ e0
        exact x4.2 _ (by have := x3.1; omega) (by omega))
      have n3 := x3.1
      have g3 : h3.get h.n = some (.cells 0 42 [.int .i64 what, .int .i64 n] 0 false) := by rw [x3.2 _ (by omega) (by omega)]; exact g2
      refine Wp.block ?_
      refine Wp.seq ?_
      refine Wp.region ?_
      refine Wo.pre 8 (by kernel_rfl) ?_
      refine Wo.nil ?_
      refine Wp.cond (what == 0) (by kernel_rfl) ?_
      rw [if_pos (by simp [h0])]
      refine Wp.seq ?_
      refine Wp.region ?_
      refine Wo.pre 1 (by kernel_rfl) ?_
      refine Wo.pre 1 (by kernel_rfl) ?_
      refine Wo.val (.int .i64 n) H2 (by kernel_rfl) (iop_ld (a := ⟨h.n, 0, 1⟩) (by kernel_rfl) (Ld H2 g2).2) ?_
      refine Wo.call (by kernel_rfl) (by kernel_rfl) (c1) ?_
      refine Wo.pre 1 (by kernel_rfl) ?_
      refine Wo.pre 1 (by kernel_rfl) ?_
      refine Wo.pre 1 (by kernel_rfl) ?_
      refine Wo.pre 1 (by kernel_rfl) ?_
      refine Wo.pre 1 (by kernel_rfl) ?_
      refine Wo.nil ?_
      refine Wp.seq ?_
      refine Wp.region ?_
      refine Wo.pre 1 (by kernel_rfl) ?_
      refine Wo.pre 1 (by kernel_rfl) ?_
      refine Wo.val (.int .i64 n) h3 (by kernel_rfl) (iop_ld (a := ⟨h.n, 0, 1⟩) (by kernel_rfl) (Ld h3 g3).2) ?_
      refine Wo.call (by kernel_rfl) (by kernel_rfl) (c2) ?_
      refine Wo.pre 1 (by kernel_rfl) ?_
      refine Wo.pre 1 (by kernel_rfl) ?_
      refine Wo.pre 1 (by kernel_rfl) ?_
      refine Wo.pre 1 (by kernel_rfl) ?_
      refine Wo.pre 1 (by kernel_rfl) ?_
      refine Wo.nil ?_
      refine Wp.seq ?_
      refine Wp.region ?_
      refine Wo.pre 1 (by kernel_rfl) ?_
      refine Wo.pre 1 (by kernel_rfl) ?_
      refine Wo.val (.bool false) h4 (by kernel_rfl) (iop_neB (k := .u64) (a := (rdV L n : Nat)) (b := (rdV L n : Nat)) false (by kernel_rfl) (by kernel_rfl) (by simp)) ?_
      refine Wo.pre 1 (by kernel_rfl) ?_
      refine Wo.pre 1 (by kernel_rfl) ?_
      refine Wo.pre 1 (by kernel_rfl) ?_
      refine Wo.val (.bool false) h4 (by kernel_rfl) (iop_neB (k := .i64) (a := rdE L n) (b := rdE L n) false (by kernel_rfl) (by kernel_rfl) (by simp)) ?_
      refine Wo.pre 1 (by kernel_rfl) ?_
      refine Wo.nil ?_
      refine Wp.cond false (by kernel_rfl) ?_
      refine Wp.skip ?_
      refine ⟨rfl, rdL L n, hT.next hR hS hv hw R4 S4 sb3 sb4 (fun b hb e1 e2 => ?_) (rdL_len L n), ⟨(by kernel_rfl), (by kernel_rfl), (by kernel_rfl), (by kernel_rfl), (by kernel_rfl), (by kernel_rfl)⟩⟩
      show h4.get b = h.get b
      rw [x4.2 b (by omega) e2, x3.2 b (by omega) e1, X2.2 b hb]
    · by_cases h1 : what = 1
      · refine Wp.block ?_
        refine Wp.seq ?_
        refine Wp.region ?_
        refine Wo.pre 8 (by kernel_rfl) ?_
        refine Wo.nil ?_
        refine Wp.cond (what == 0) (by kernel_rfl) ?_
        rw [if_neg (by simp [h0])]
        refine Wp.seq ?_
        refine Wp.seq ?_
        refine Wp.region ?_
        refine Wo.pre 8 (by kernel_rfl) ?_
        refine Wo.nil ?_
        refine Wp.cond (what == 1) (by kernel_rfl) ?_
        rw [if_pos (by simp [h1])]
        refine Wp.skip ?_
        refine Wp.cond (what == 1) (by kernel_rfl) ?_
        rw [if_pos (by simp [h1])]
        refine Wp.seq ?_
        refine Wp.region ?_
        refine Wo.pre 8 (by kernel_rfl) ?_
        refine Wo.nil ?_
        refine Wp.seq ?_
        refine Wp.region ?_
        refine Wo.pre 8 (by kernel_rfl) ?_
        refine Wo.nil ?_
        refine Wp.seq ?_
        refine Wp.region ?_
        refine Wo.pre 8 (by kernel_rfl) ?_
        refine Wo.nil ?_
        refine Wp.seq ?_
        refine Wp.seq ?_
        refine Wp.region ?_
        refine Wo.pre 1 (by kernel_rfl) ?_
        refine Wo.val (.int .i64 what) H2 (by kernel_rfl) (iop_ld (a := ⟨h.n, 0, 0⟩) (by kernel_rfl) (Ld H2 g2).1) ?_
        refine Wo.pre 8 (by kernel_rfl) ?_
        refine Wo.nil ?_
        refine Wp.cond (what == 1) (by kernel_rfl) ?_
        rw [if_pos (by simp [h1])]
        obtain ⟨h3, x, v3, c1, R3, ox, x3, sb3⟩ := vec_any hR2 n hT.len
        have S3 : RRd h3 sb w L := hS2.keep x3.1 (x3.2 _ (by omega) (by omega)) (fun a n c e => x3.2 _ (by have := hw a n c e; omega) (by have := hw a n c e; omega))
        obtain ⟨h4, y, w4, c2, S4, oy, x4, sb4⟩ := rrvec_any S3 n hT.len
        have R4 : Rd h4 rb v3 (vL L n) := R3.keep x4.1 (x4.2 _ (by have := x3.1; omega) (by omega)) (fun a n c e => by
          obtain ⟨a0, n0, c0, e0, q⟩ := sb3 a n c e
          have := hv _ _ _ e0
          exact x4.2 _ (by have := x3.1; omega) (by omega))
        have n3 := x3.1
        have n4 := x4.1
        have g3 : h3.get h.n = some (.cells 0 42 [.int .i64 what, .int .i64 n] 0 false) := by rw [x3.2 _ (by omega) (by omega)]; exact g2
        have ox4 : Ow H2.n h4 x (vX L n) := by
          rcases ox with h0 | ⟨b, g, q1, q2, q3, q4⟩
          · exact .inl h0
          · exact .inr ⟨b, g, q1, by omega, by rw [x4.2 _ q2 (by omega)]; exact q3, q4⟩
        have ceq := equal_run ox4.bs oy.bs
        rw [show (vX L n == vX L n) = true by simp] at ceq
        obtain ⟨bx, gx, hbx, hsx⟩ := ox4.spoil (Ext.refl h4) h4.n
        refine Wp.seq ?_
        refine Wp.region ?_
        refine Wo.pre 1 (by kernel_rfl) ?_
        refine Wo.pre 1 (by kernel_rfl) ?_
        refine Wo.val (.int .i64 n) H2 (by kernel_rfl) (iop_ld (a := ⟨h.n, 0, 1⟩) (by kernel_rfl) (Ld H2 g2).2) ?_
        refine Wo.call (by kernel_rfl) (by kernel_rfl) (c1) ?_
        refine Wo.pre 1 (by kernel_rfl) ?_
        refine Wo.pre 1 (by kernel_rfl) ?_
        refine Wo.pre 1 (by kernel_rfl) ?_
        refine Wo.pre 1 (by kernel_rfl) ?_
        refine Wo.pre 1 (by kernel_rfl) ?_
        refine Wo.nil ?_
        refine Wp.region ?_
        refine Wo.pre 1 (by kernel_rfl) ?_
        refine Wo.pre 1 (by kernel_rfl) ?_
        refine Wo.val (.int .i64 n) h3 (by kernel_rfl) (iop_ld (a := ⟨h.n, 0, 1⟩) (by kernel_rfl) (Ld h3 g3).2) ?_
        refine Wo.call (by kernel_rfl) (by kernel_rfl) (c2) ?_
        refine Wo.pre 1 (by kernel_rfl) ?_
        refine Wo.pre 1 (by kernel_rfl) ?_
        refine Wo.pre 1 (by kernel_rfl) ?_
        refine Wo.pre 1 (by kernel_rfl) ?_
        refine Wo.pre 1 (by kernel_rfl) ?_
        refine Wo.nil ?_
        refine Wp.seq ?_
        refine Wp.seq ?_
        refine Wp.region ?_
        refine Wo.pre 1 (by kernel_rfl) ?_
        refine Wo.pre 1 (by kernel_rfl) ?_
        refine Wo.call (by kernel_rfl) (by kernel_rfl) (ceq) ?_
        refine Wo.pre 1 (by kernel_rfl) ?_
        refine Wo.pre 1 (by kernel_rfl) ?_
        refine Wo.pre 1 (by kernel_rfl) ?_
        refine Wo.pre 1 (by kernel_rfl) ?_
        refine Wo.val (.bool false) h4 (by kernel_rfl) (iop_neB (k := .i64) (a := vE L n) (b := vE L n) false (by kernel_rfl) (by kernel_rfl) (by simp)) ?_
        refine Wo.pre 1 (by kernel_rfl) ?_
        refine Wo.nil ?_
        refine Wp.cond false (by kernel_rfl) ?_
        refine Wp.skip ?_
        refine Wp.seq ?_
        refine Wp.region ?_
        refine Wo.pre 1 (by kernel_rfl) ?_
        refine Wo.val (.int .i64 (vX L n).length) h4 (by kernel_rfl) ((ox4.bs.len (by kernel_rfl))) ?_
        refine Wo.pre 1 (by kernel_rfl) ?_
        refine Wo.nil ?_
        refine Wp.block ?_
        refine spoil4_1 (Nat.le_trans (vX_len L n) hT.len) (vX L n).length 0 (by omega) h4 _ x (by kernel_rfl) (by kernel_rfl) (by kernel_rfl) (by kernel_rfl) hsx _ ?_
        intro ts3 k3 d0 d1 d2 d3 d4
        clear hsx d4
        have R5 : Rd k3 rb v3 (vL L n) := R4.keep (by omega) (d3 _ (by omega)) (fun a n c e => d3 _ (by
          obtain ⟨a0, n0, c0, e0, q⟩ := sb3 a n c e
          have := hv _ _ _ e0
          omega))
        have S5 : RRd k3 sb w4 (vL L n) := S4.keep (by omega) (d3 _ (by omega)) (fun a n c e => d3 _ (by
          obtain ⟨a0, n0, c0, e0, q⟩ := sb4 a n c e
          have := hw _ _ _ e0
          omega))
        refine ⟨rfl, vL L n, hT.next hR hS hv hw R5 S5 sb3 sb4 (fun b hb e1 e2 => ?_) (vL_len L n), ⟨d0, (d1 6 (by omega) (by omega)).trans (by kernel_rfl), (d1 7 (by omega) (by omega)).trans (by kernel_rfl), (d1 39 (by omega) (by omega)).trans (by kernel_rfl), (d1 40 (by omega) (by omega)).trans (by kernel_rfl), (d1 41 (by omega) (by omega)).trans (by kernel_rfl)⟩⟩
        rw [d3 b (by omega), x4.2 b (by omega) e2, x3.2 b (by omega) e1, X2.2 b hb]
      · by_cases h2 : what = 2
        · refine Wp.block ?_
          refine Wp.seq ?_
          refine Wp.region ?_
          refine Wo.pre 8 (by kernel_rfl) ?_
          refine Wo.nil ?_
          refine Wp.cond (what == 0) (by kernel_rfl) ?_
          rw [if_neg (by simp [h0])]
          refine Wp.seq ?_
          refine Wp.seq ?_
          refine Wp.region ?_
          refine Wo.pre 8 (by kernel_rfl) ?_
          refine Wo.nil ?_
          refine Wp.cond (what == 1) (by kernel_rfl) ?_
          rw [if_neg (by simp [h1])]
          refine Wp.region ?_
          refine Wo.pre 8 (by kernel_rfl) ?_
          refine Wo.nil ?_
          refine Wp.cond (what == 2) (by kernel_rfl) ?_
          rw [if_pos (by simp [h2])]
          refine Wp.seq ?_
          refine Wp.region ?_
          refine Wo.pre 8 (by kernel_rfl) ?_
          refine Wo.nil ?_
          refine Wp.seq ?_
          refine Wp.region ?_
          refine Wo.pre 8 (by kernel_rfl) ?_
          refine Wo.nil ?_
          refine Wp.seq ?_
          refine Wp.region ?_
          refine Wo.pre 8 (by kernel_rfl) ?_
          refine Wo.nil ?_
          refine Wp.seq ?_
          refine Wp.seq ?_
          refine Wp.region ?_
          refine Wo.pre 1 (by kernel_rfl) ?_
          refine Wo.val (.int .i64 what) H2 (by kernel_rfl) (iop_ld (a := ⟨h.n, 0, 0⟩) (by kernel_rfl) (Ld H2 g2).1) ?_
          refine Wo.pre 8 (by kernel_rfl) ?_
          refine Wo.nil ?_
          refine Wp.cond (what == 1) (by kernel_rfl) ?_
          rw [if_neg (by simp [h1])]
          obtain ⟨h3, x, v3, c1, R3, ox, x3, sb3⟩ := take_any hR2 n hT.len
          have S3 : RRd h3 sb w L := hS2.keep x3.1 (x3.2 _ (by omega) (by omega)) (fun a n c e => x3.2 _ (by have := hw a n c e; omega) (by have := hw a n c e; omega))
          obtain ⟨h4, y, w4, c2, S4, oy, x4, sb4⟩ := rrtake_any S3 n hT.len
          have R4 : Rd h4 rb v3 (tL L n) := R3.keep x4.1 (x4.2 _ (by have := x3.1; omega) (by omega)) (fun a n c e => by
            obtain ⟨a0, n0, c0, e0, q⟩ := sb3 a n c e
            have := hv _ _ _ e0
            exact x4.2 _ (by have := x3.1; omega) (by omega))
          have n3 := x3.1
          have n4 := x4.1
          have g3 : h3.get h.n = some (.cells 0 42 [.int .i64 what, .int .i64 n] 0 false) := by rw [x3.2 _ (by omega) (by omega)]; exact g2
          have ox4 : Ow H2.n h4 x (tX L n) := by
            rcases ox with h0 | ⟨b, g, q1, q2, q3, q4⟩
            · exact .inl h0
            · exact .inr ⟨b, g, q1, by omega, by rw [x4.2 _ q2 (by omega)]; exact q3, q4⟩
          have ceq := equal_run ox4.bs oy.bs
          rw [show (tX L n == tX L n) = true by simp] at ceq
          obtain ⟨bx, gx, hbx, hsx⟩ := ox4.spoil (Ext.refl h4) h4.n
          refine Wp.seq ?_
          refine Wp.region ?_
          refine Wo.pre 1 (by kernel_rfl) ?_
          refine Wo.pre 1 (by kernel_rfl) ?_
          refine Wo.val (.int .i64 n) H2 (by kernel_rfl) (iop_ld (a := ⟨h.n, 0, 1⟩) (by kernel_rfl) (Ld H2 g2).2) ?_
          refine Wo.call (by kernel_rfl) (by kernel_rfl) (c1) ?_
          refine Wo.pre 1 (by kernel_rfl) ?_
          refine Wo.pre 1 (by kernel_rfl) ?_
          refine Wo.pre 1 (by kernel_rfl) ?_
          refine Wo.pre 1 (by kernel_rfl) ?_
          refine Wo.pre 1 (by kernel_rfl) ?_
          refine Wo.nil ?_
          refine Wp.region ?_
          refine Wo.pre 1 (by kernel_rfl) ?_
          refine Wo.pre 1 (by kernel_rfl) ?_
          refine Wo.val (.int .i64 n) h3 (by kernel_rfl) (iop_ld (a := ⟨h.n, 0, 1⟩) (by kernel_rfl) (Ld h3 g3).2) ?_
          refine Wo.call (by kernel_rfl) (by kernel_rfl) (c2) ?_
          refine Wo.pre 1 (by kernel_rfl) ?_
          refine Wo.pre 1 (by kernel_rfl) ?_
          refine Wo.pre 1 (by kernel_rfl) ?_
          refine Wo.pre 1 (by kernel_rfl) ?_
          refine Wo.pre 1 (by kernel_rfl) ?_
          refine Wo.nil ?_
          refine Wp.seq ?_
          refine Wp.seq ?_
          refine Wp.region ?_
          refine Wo.pre 1 (by kernel_rfl) ?_
          refine Wo.pre 1 (by kernel_rfl) ?_
          refine Wo.call (by kernel_rfl) (by kernel_rfl) (ceq) ?_
          refine Wo.pre 1 (by kernel_rfl) ?_
          refine Wo.pre 1 (by kernel_rfl) ?_
          refine Wo.pre 1 (by kernel_rfl) ?_
          refine Wo.pre 1 (by kernel_rfl) ?_
          refine Wo.val (.bool false) h4 (by kernel_rfl) (iop_neB (k := .i64) (a := readyE L n) (b := readyE L n) false (by kernel_rfl) (by kernel_rfl) (by simp)) ?_
          refine Wo.pre 1 (by kernel_rfl) ?_
          refine Wo.nil ?_
          refine Wp.cond false (by kernel_rfl) ?_
          refine Wp.skip ?_
          refine Wp.seq ?_
          refine Wp.region ?_
          refine Wo.pre 1 (by kernel_rfl) ?_
          refine Wo.val (.int .i64 (tX L n).length) h4 (by kernel_rfl) ((ox4.bs.len (by kernel_rfl))) ?_
          refine Wo.pre 1 (by kernel_rfl) ?_
          refine Wo.nil ?_
          refine Wp.block ?_
          refine spoil4_1 (Nat.le_trans (tX_len L n) hT.len) (tX L n).length 0 (by omega) h4 _ x (by kernel_rfl) (by kernel_rfl) (by kernel_rfl) (by kernel_rfl) hsx _ ?_
          intro ts3 k3 d0 d1 d2 d3 d4
          clear hsx d4
          have R5 : Rd k3 rb v3 (tL L n) := R4.keep (by omega) (d3 _ (by omega)) (fun a n c e => d3 _ (by
            obtain ⟨a0, n0, c0, e0, q⟩ := sb3 a n c e
            have := hv _ _ _ e0
            omega))
          have S5 : RRd k3 sb w4 (tL L n) := S4.keep (by omega) (d3 _ (by omega)) (fun a n c e => d3 _ (by
            obtain ⟨a0, n0, c0, e0, q⟩ := sb4 a n c e
            have := hw _ _ _ e0
            omega))
          refine ⟨rfl, tL L n, hT.next hR hS hv hw R5 S5 sb3 sb4 (fun b hb e1 e2 => ?_) (tL_len L n), ⟨d0, (d1 6 (by omega) (by omega)).trans (by kernel_rfl), (d1 7 (by omega) (by omega)).trans (by kernel_rfl), (d1 39 (by omega) (by omega)).trans (by kernel_rfl), (d1 40 (by omega) (by omega)).trans (by kernel_rfl), (d1 41 (by omega) (by omega)).trans (by kernel_rfl)⟩⟩
          rw [d3 b (by omega), x4.2 b (by omega) e2, x3.2 b (by omega) e1, X2.2 b hb]
        · refine Wp.block ?_
          refine Wp.seq ?_
          refine Wp.region ?_
          refine Wo.pre 8 (by kernel_rfl) ?_
          refine Wo.nil ?_
          refine Wp.cond (what == 0) (by kernel_rfl) ?_
          rw [if_neg (by simp [h0])]
          refine Wp.seq ?_
          refine Wp.seq ?_
          refine Wp.region ?_
          refine Wo.pre 8 (by kernel_rfl) ?_
          refine Wo.nil ?_
          refine Wp.cond (what == 1) (by kernel_rfl) ?_
          rw [if_neg (by simp [h1])]
          refine Wp.region ?_
          refine Wo.pre 8 (by kernel_rfl) ?_
          refine Wo.nil ?_
          refine Wp.cond (what == 2) (by kernel_rfl) ?_
          rw [if_neg (by simp [h2])]
          refine Wp.skip ?_
          exact ⟨rfl, L, hT.next hR hS hv hw hR2 hS2 (SB.refl _) (SB.refl _) (fun b hb _ _ => X2.2 b hb) (Nat.le_refl _), ⟨(by kernel_rfl), (by kernel_rfl), (by kernel_rfl), (by kernel_rfl), (by kernel_rfl), (by kernel_rfl)⟩⟩
end Go.Det
