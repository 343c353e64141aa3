/- The law WireBack: things, their sizes, how they are laid down and read. -/
import Derived.Test.YthahfhdibhgboaaReadsR
set_option linter.unusedVariables false
set_option linter.unusedSimpArgs false
set_option linter.unusedSectionVars false
namespace Go.Det
open Go.Proofs
attribute [local irreducible] Wp Wo Wd iop ev slots quiets wanted put

/-- A row of cells of its own. -/
def OwC (e sz lo : Nat) (h : H) (v : AV) (cs : List AV) (n : Nat) : Prop := (v = .nils ∧ cs = [] ∧ n = 0) ∨ ∃ b g, lo ≤ b ∧ b < h.n ∧ h.get b = some (.cells g e cs 0 false) ∧ v = .sl ⟨b, g, 0⟩ n (.op sz) ∧ cs.length = n * sz

theorem OwC.ext {e sz lo n : Nat} {h h' : H} {v : AV} {cs : List AV} (ho : OwC e sz lo h v cs n) (hn : h.n ≤ h'.n) (hk : ∀ b g c, lo ≤ b → b < h.n → h.get b = some (.cells g e c 0 false) → h'.get b = h.get b) : OwC e sz lo h' v cs n := by
  rcases ho with h0 | ⟨b, g, h1, h2, h3, h4⟩
  · exact .inl h0
  · exact .inr ⟨b, g, h1, Nat.lt_of_lt_of_le h2 hn, by rw [hk b _ _ h1 h2 h3]; exact h3, h4⟩

theorem Ow.keep {lo : Nat} {h h' : H} {v : AV} {l : List UInt8} (ho : Ow lo h v l) (hn : h.n ≤ h'.n) (hk : ∀ b g c, lo ≤ b → b < h.n → h.get b = some (.cells g 5 c 0 false) → h'.get b = h.get b) : Ow lo h' v l := by
  rcases ho with h0 | ⟨b, g, h1, h2, h3, h4⟩
  · exact .inl h0
  · exact .inr ⟨b, g, h1, Nat.lt_of_lt_of_le h2 hn, by rw [hk b _ _ h1 h2 h3]; exact h3, h4⟩

theorem iop_appG {x y : IX} {ρ : IX → AV} {h h' : H} {v w z : AV} {e sz by_ : Nat} (hx : ρ x = v) (hy : ρ y = w) (hs : isStrV w = false) (ha : append h e sz by_ v w = some (.val z h')) : iop (.app e sz by_ false x y) ρ h = some (.val z h') := by
  simp only [iop, hx, hy, hs, BEq.rfl, if_true, ha]

/-- One more element behind. -/
theorem OwC.app {e sz lo n bytes : Nat} {h : H} {v : AV} {cs new : List AV} (ho : OwC e (sz + 1) lo h v cs n) (hlo : lo ≤ h.n) (hs : new.length = sz + 1) (h1 : new.all AV.one = true) (hf : fits (n + 1) bytes = true) (hb : n < 2 ^ 62) (H1 : H) (hH1 : H1 = h.new (.cells 0 e new 0 false)) :
    ∃ v' h', append H1 e (sz + 1) bytes v (.sl ⟨h.n, 0, 0⟩ 1 (.ex 1)) = some (.val v' h') ∧ OwC e (sz + 1) lo h' v' (cs ++ new) (n + 1) ∧ h.n ≤ h'.n ∧ ∀ b, b < h.n → (b < lo ∨ ∀ g c, h.get b ≠ some (.cells g e c 0 false)) → h'.get b = h.get b := by
  have g1 : H1.get h.n = some (.cells 0 e new 0 false) := by rw [hH1]; exact h.get_new _
  have n1 : H1.n = h.n + 1 := by rw [hH1]; rfl
  have hne : ∀ b, b ≠ h.n → H1.get b = h.get b := fun b hb => by rw [hH1]; exact h.get_new_ne b _ hb
  have hld : H1.ldn ⟨h.n, 0, 0⟩ (1 * (sz + 1)) = some new := by
    unfold H.ldn H.row
    simp only [g1, BEq.rfl, Bool.not_false, Bool.true_or, Bool.and_self, if_true, Nat.one_mul]
    rw [← hs]
    exact cut_all _
  unfold append
  simp only [srcCells, hld, Option.map_some]
  rcases ho with ⟨rfl, rfl, rfl⟩ | ⟨b, g, q1, q2, q3, rfl, q5⟩
  · rw [Nat.zero_add] at hf
    refine ⟨.sl ⟨H1.n, 0, 0⟩ 1 (.op (sz + 1)), H1.new (.cells 0 e new 0 false), ?_, .inr ⟨H1.n, 0, by omega, by show _ < H1.n + 1; omega, by rw [H1.get_new]; rfl, rfl, by simp [hs]⟩, by show h.n ≤ H1.n + 1; omega, fun b hb _ => ?_⟩
    · simp [hf, h1]
    · rw [H1.get_new_ne b _ (by omega), hne b (by omega)]
  · have hbn : b ≠ h.n := by omega
    have q3' : H1.get b = some (.cells g e cs 0 false) := by rw [hne b hbn]; exact q3
    refine ⟨.sl ⟨b, g + 1, 0⟩ (n + 1) (.op (sz + 1)), H1.set b (.cells (g + 1) e (cs ++ new) 0 false), ?_, .inr ⟨b, g + 1, q1, by show b < H1.n; omega, H1.get_set b _, rfl, by rw [List.length_append, q5, hs, Nat.succ_mul]⟩, by show h.n ≤ H1.n; omega, fun b' hb' hne' => ?_⟩
    · have hle : n + 1 ≤ 9223372036854775807 := by omega
      simp [hf, h1, q3', q5, hle]
    · have : b' ≠ b := by
        rintro rfl
        rcases hne' with h0 | h0
        · omega
        · exact h0 _ _ q3
      rw [H1.get_set_ne b b' _ this, hne b' (by omega)]

/-- A thing: whether a vector, how great, its number, its bytes. -/
structure Th where
  vec : Bool
  size : Int
  n : Nat
  b : List UInt8

def szOf (vec : Bool) (size : Int) : Nat := if vec then 1 + (IntKind.u64.wrap size).toNat % 3 else match (IntKind.u64.wrap size).toNat % 5 with
  | 0 => 1
  | 1 => 2
  | 2 => 3
  | 3 => 4
  | _ => 8
def Th.sz (t : Th) : Nat := szOf t.vec t.size

theorem szOf_ok (vec : Bool) (size : Int) : (1 ≤ szOf vec size ∧ szOf vec size ≤ 4 ∨ szOf vec size = 8) ∧ (vec = true → szOf vec size ≤ 3) := by
  unfold szOf
  cases vec
  · refine ⟨?_, fun h => by cases h⟩
    simp only [Bool.false_eq_true, if_false]
    split <;> simp
  · refine ⟨.inl ?_, fun _ => ?_⟩ <;> simp only [if_true] <;> omega

theorem u64_tmod (size : Int) (k : Nat) : (IntKind.u64.wrap size).tmod (k + 1 : Nat) = (((IntKind.u64.wrap size).toNat % (k + 1) : Nat) : Int) ∧ 0 ≤ IntKind.u64.wrap size := by
  have h0 : 0 ≤ IntKind.u64.wrap size := by
    have : IntKind.u64.wrap size = size % 18446744073709551616 := by simp [IntKind.wrap, IntKind.bits, IntKind.signed]
    rw [this]; omega
  obtain ⟨m, hm⟩ : ∃ m : Nat, IntKind.u64.wrap size = m := ⟨(IntKind.u64.wrap size).toNat, by omega⟩
  rw [hm, Int.toNat_natCast]
  exact ⟨by rw [Int.natCast_emod]; exact Int.tmod_eq_emod_of_nonneg (by omega), by omega⟩

theorem size_run {h : H} {x : AV} (hx1 : x.one = true) (vec : Bool) (size : Int) (n : Int) : ∃ h', Runs TF 34 [.agg [.bool vec, .int .i64 size, .int .u64 n, x]] h (.int .i64 (szOf vec size)) h' ∧ Ext h h' := by
  have hall : ([.bool vec, .int .i64 size, .int .u64 n, x] : List AV).all AV.one = true := by
    have o3 : ∀ k i, (AV.int k i).one = true := fun _ _ => rfl
    have o4 : ∀ b, (AV.bool b).one = true := fun _ => rfl
    simp [hx1, o3, o4]
  obtain ⟨H1, hH1⟩ : ∃ H1, H1 = h.new (.cells 0 57 [.bool vec, .int .i64 size, .int .u64 n, x] 0 false) := ⟨_, rfl⟩
  have E1 : Ext h H1 := by rw [hH1]; exact Ext.new h _
  have enew : ∀ {y : IX} {ρ : IX → AV}, ρ y = .agg [.bool vec, .int .i64 size, .int .u64 n, x] → iop (.new 57 y) ρ h = some (.val (.ptr ⟨h.n, 0, 0⟩) H1) := fun hy => by rw [hH1]; exact iop_new hy hall
  have hg1 : H1.get h.n = some (.cells 0 57 [.bool vec, .int .i64 size, .int .u64 n, x] 0 false) := by rw [hH1]; exact h.get_new _
  have L0 : H1.ldg ⟨h.n, 0, 0⟩ none = some (.bool vec) := by simp [H.ldg, H.ld, H.row, hg1, getL]
  cases vec with
  | true =>
    have L1 : H1.ldg ⟨h.n, 0, 1⟩ none = some (.int .i64 size) := by simp [H.ldg, H.ld, H.row, hg1, getL]
    refine ⟨H1, Runs.of' f34 rfl ?_, E1⟩
    refine Wp.seq ?_
    refine Wp.region ?_
    refine Wo.val _ _ (by kernel_rfl) (enew (by kernel_rfl)) ?_
    refine Wo.pre 8 (by kernel_rfl) ?_
    refine Wo.nil ?_
    refine Wp.seq ?_
    refine Wp.seq ?_
    refine Wp.region ?_
    refine Wo.pre 1 (by kernel_rfl) ?_
    refine Wo.val (.bool true) H1 (by kernel_rfl) (iop_ld (a := ⟨h.n, 0, 0⟩) (by kernel_rfl) L0) ?_
    refine Wo.nil ?_
    refine Wp.cond true (by kernel_rfl) ?_
    refine Wp.seq ?_
    refine Wp.region ?_
    refine Wo.pre 1 (by kernel_rfl) ?_
    refine Wo.val (.int .i64 size) H1 (by kernel_rfl) (iop_ld (a := ⟨h.n, 0, 1⟩) (by kernel_rfl) L1) ?_
    refine Wo.pre 8 (by kernel_rfl) ?_
    refine Wo.nil ?_
    have e := (u64_tmod size 2).1
    have e2 : AV.int .i64 (szOf true size) = AV.int .i64 (IntKind.i64.wrap (1 + IntKind.i64.wrap ((IntKind.u64.wrap size).tmod 3))) := by
      have e' : (IntKind.u64.wrap size).tmod 3 = (((IntKind.u64.wrap size).toNat % 3 : Nat) : Int) := e
      rw [e', i64_fit (((IntKind.u64.wrap size).toNat % 3 : Nat) : Int) (by omega), i64_fit _ (by omega)]
      congr 1
    exact Wp.ret ⟨.inr rfl, rfl, by rw [e2]; kernel_rfl⟩
  | false =>
    obtain ⟨H2, hH2⟩ : ∃ H2, H2 = H1.new (.cells 0 3 [.int .i64 1, .int .i64 2, .int .i64 3, .int .i64 4, .int .i64 8] 0 false) := ⟨_, rfl⟩
    have E2 : Ext H1 H2 := by rw [hH2]; exact Ext.new _ _
    have hg2 : H2.get h.n = some (.cells 0 57 [.bool false, .int .i64 size, .int .u64 n, x] 0 false) := by rw [E2.2 _ (by rw [hH1]; show h.n < h.n + 1; omega)]; exact hg1
    have L1 : H2.ldg ⟨h.n, 0, 1⟩ none = some (.int .i64 size) := by simp [H.ldg, H.ld, H.row, hg2, getL]
    have e5 : ∀ ts, iop (.bsl 3 [.int .i64 0, .int .i64 0, .int .i64 0, .int .i64 0, .int .i64 0] 5 [(0, 1, .c (.int .i64 1)), (1, 1, .c (.int .i64 2)), (2, 1, .c (.int .i64 3)), (3, 1, .c (.int .i64 4)), (4, 1, .c (.int .i64 8))]) (ev ts) H1 = some (.val (.sl ⟨H1.n, 0, 0⟩ 5 (.ex 5)) H2) := fun ts => by rw [hH2]; kernel_rfl
    have hg3 : H2.get H1.n = some (.cells 0 3 [.int .i64 1, .int .i64 2, .int .i64 3, .int .i64 4, .int .i64 8] 0 false) := by rw [hH2]; exact H1.get_new _
    obtain ⟨m, hm⟩ : ∃ m, m = (IntKind.u64.wrap size).toNat % 5 := ⟨_, rfl⟩
    have hm5 : m < 5 := by omega
    have e : AV.int .i64 (IntKind.i64.wrap ((IntKind.u64.wrap size).tmod 5)) = .int .i64 (m : Nat) := by
      have e' : (IntKind.u64.wrap size).tmod 5 = (((IntKind.u64.wrap size).toNat % 5 : Nat) : Int) := (u64_tmod size 4).1
      rw [e', ← hm, i64_fit _ (by omega)]
    have Lm : H2.ldg ⟨H1.n, 0, 0 + m * 1⟩ none = some (.int .i64 (szOf false size)) := by
      have hm' : m = 0 ∨ m = 1 ∨ m = 2 ∨ m = 3 ∨ m = 4 := by omega
      unfold szOf
      rw [← hm]
      rcases hm' with rfl | rfl | rfl | rfl | rfl <;> simp [H.ldg, H.ld, H.row, hg3, getL]
    refine ⟨H2, Runs.of' f34 rfl ?_, E1.trans E2⟩
    refine Wp.seq ?_
    refine Wp.region ?_
    refine Wo.val _ _ (by kernel_rfl) (enew (by kernel_rfl)) ?_
    refine Wo.pre 8 (by kernel_rfl) ?_
    refine Wo.nil ?_
    refine Wp.seq ?_
    refine Wp.seq ?_
    refine Wp.region ?_
    refine Wo.pre 1 (by kernel_rfl) ?_
    refine Wo.val (.bool false) H1 (by kernel_rfl) (iop_ld (a := ⟨h.n, 0, 0⟩) (by kernel_rfl) L0) ?_
    refine Wo.nil ?_
    refine Wp.cond false (by kernel_rfl) ?_
    refine Wp.skip ?_
    refine Wp.seq ?_
    refine Wp.region ?_
    refine Wo.val _ _ (by kernel_rfl) (e5 _) ?_
    refine Wo.pre 1 (by kernel_rfl) ?_
    refine Wo.val (.int .i64 size) H2 (by kernel_rfl) (iop_ld (a := ⟨h.n, 0, 1⟩) (by kernel_rfl) L1) ?_
    refine Wo.pre 3 (by kernel_rfl) ?_
    refine Wo.val _ H2 (by kernel_rfl) (iop_ia (a := ⟨H1.n, 0, 0⟩) (n := 5) (c := .ex 5) (i := m) (by kernel_rfl) (by rw [← e]; kernel_rfl) hm5) ?_
    refine Wo.val (.int .i64 (szOf false size)) H2 (by kernel_rfl) (iop_ld (a := ⟨H1.n, 0, 0 + m * 1⟩) (by kernel_rfl) Lm) ?_
    refine Wo.pre 8 (by kernel_rfl) ?_
    refine Wo.nil ?_
    exact Wp.ret ⟨.inr rfl, rfl, (by kernel_rfl)⟩
def Th.enc (t : Th) : List UInt8 := if t.vec = true then digits t.b.length t.sz t.sz ++ t.b else digits t.n t.sz t.sz
def Th.encE (t : Th) : Int := if t.vec = true then numE t.b.length t.sz else numE t.n t.sz

theorem be_dig {n s : Nat} (hn : n < 256 ^ s) : ∀ k, k ≤ s → be (digits n s k) = n / 256 ^ (s - k) := by
  intro k
  induction k with
  | zero => intro _; rw [Nat.sub_zero, Nat.div_eq_of_lt hn]; rfl
  | succ k ih =>
    intro hk
    rw [digits_succ, be_snoc, ih (by omega), dig_eq, UInt8.toNat_ofNat']
    have e1 : s - k = (s - 1 - k) + 1 := by omega
    have e2 : s - (k + 1) = s - 1 - k := by omega
    rw [e1, e2, Nat.pow_succ, ← Nat.div_div_eq_div_mul]
    omega
theorem be_dig' {n s : Nat} (hn : n < 256 ^ s) : be (digits n s s) = n := by
  rw [be_dig hn s (Nat.le_refl _)]; simp

theorem numE_fits {n s : Nat} (hs : 1 ≤ s ∧ s ≤ 4 ∨ s = 8) (he : numE n s = 0) : n < 256 ^ s := by
  have h1 : (1 ≤ (s : Int) ∧ (s : Int) ≤ 4 ∨ (s : Int) = 8) := by omega
  simp only [numE, h1, not_true, if_false, Int.toNat_natCast] at he
  split at he
  · cases he
  · rename_i h2
    rw [Nat.pow_mul] at h2
    exact Nat.lt_of_not_le h2
theorem numE_03 {n s : Nat} (hs : 1 ≤ s ∧ s ≤ 4 ∨ s = 8) : numE n s = 0 ∨ numE n s = 3 := by
  have h1 : (1 ≤ (s : Int) ∧ (s : Int) ≤ 4 ∨ (s : Int) = 8) := by omega
  simp only [numE, h1, not_true, if_false]
  split
  · exact .inr rfl
  · exact .inl rfl
theorem Th.encE_03 (t : Th) : t.encE = 0 ∨ t.encE = 3 := by
  unfold Th.encE
  split <;> exact numE_03 (szOf_ok _ _).1

theorem enc_len (t : Th) : t.enc.length = if t.vec = true then t.sz + t.b.length else t.sz := by
  unfold Th.enc
  split <;> simp [digits_len]

theorem dec_vec {t : Th} (hv : t.vec = true) (he : t.encE = 0) (m : List UInt8) : vE (t.enc ++ m) t.sz = 0 ∧ vX (t.enc ++ m) t.sz = t.b ∧ vL (t.enc ++ m) t.sz = m := by
  have hs := (szOf_ok t.vec t.size)
  have hs3 : 1 ≤ t.sz ∧ t.sz ≤ 3 := by have := hs.2 hv; have := hs.1; unfold Th.sz; omega
  have he' : numE t.b.length t.sz = 0 := by unfold Th.encE at he; rw [if_pos hv] at he; exact he
  have hn := numE_fits (by omega) he'
  have hbe := be_dig' hn
  have ee : t.enc = digits t.b.length t.sz t.sz ++ t.b := by unfold Th.enc; rw [if_pos hv]
  have htk : (t.enc ++ m).take t.sz = digits t.b.length t.sz t.sz := by rw [ee, List.append_assoc, List.take_left' (digits_len _ _ _)]
  have hdr : (t.enc ++ m).drop t.sz = t.b ++ m := by rw [ee, List.append_assoc, List.drop_left' (digits_len _ _ _)]
  have hlen : (t.enc ++ m).length = t.sz + t.b.length + m.length := by rw [ee]; simp [digits_len, Nat.add_assoc]
  have c1 : 1 ≤ (t.sz : Int) ∧ (t.sz : Int) ≤ 3 := by omega
  have c2 : ¬ (((t.enc ++ m).length : Nat) : Int) < (t.sz : Int) := by omega
  have c3 : ¬ (t.enc ++ m).length < t.sz + be ((t.enc ++ m).take t.sz) := by rw [htk, hbe]; omega
  have e0 : vE (t.enc ++ m) t.sz = 0 := by simp only [vE, c1, and_self, not_true, c2, if_false, Int.toNat_natCast, c3]
  refine ⟨e0, ?_, ?_⟩
  · rw [vX, if_pos e0, Int.toNat_natCast, htk, hbe, hdr, List.take_left]
  · rw [vL, if_pos e0, vN, Int.toNat_natCast, htk, hbe, ← List.drop_drop, hdr, List.drop_left]

theorem dec_num {t : Th} (hv : ¬ t.vec = true) (he : t.encE = 0) (m : List UInt8) : rdE (t.enc ++ m) t.sz = 0 ∧ rdV (t.enc ++ m) t.sz = t.n ∧ rdL (t.enc ++ m) t.sz = m := by
  have hs := (szOf_ok t.vec t.size).1
  have he' : numE t.n t.sz = 0 := by unfold Th.encE at he; rw [if_neg hv] at he; exact he
  have hn : t.n < 256 ^ t.sz := numE_fits hs he'
  have hbe := be_dig' hn
  have ee : t.enc = digits t.n t.sz t.sz := by unfold Th.enc; rw [if_neg hv]
  have htk : (t.enc ++ m).take t.sz = digits t.n t.sz t.sz := by rw [ee, List.take_left' (digits_len _ _ _)]
  have hdr : (t.enc ++ m).drop t.sz = m := by rw [ee, List.drop_left' (digits_len _ _ _)]
  have hlen : (t.enc ++ m).length = t.sz + m.length := by rw [ee]; simp [digits_len]
  have hs' : (1 ≤ (t.sz : Int) ∧ (t.sz : Int) ≤ 4 ∨ (t.sz : Int) = 8) := by unfold Th.sz; omega
  have c2 : ¬ (((t.enc ++ m).length : Nat) : Int) < (t.sz : Int) := by omega
  have e0 : rdE (t.enc ++ m) t.sz = 0 := by simp only [rdE, hs', not_true, c2, if_false]
  refine ⟨e0, ?_, ?_⟩
  · rw [rdV, if_pos e0, Int.toNat_natCast, htk, hbe]
  · rw [rdL, if_pos e0, Int.toNat_natCast, hdr]

theorem short_vec {t : Th} (hv : t.vec = true) (he : t.encE = 0) {m l : List UInt8} {k : Nat} (hl : l = (t.enc ++ m).take k) (hk : k < t.enc.length) : vE l t.sz = 4 := by
  have hs := (szOf_ok t.vec t.size)
  have hs3 : 1 ≤ t.sz ∧ t.sz ≤ 3 := by have := hs.2 hv; have := hs.1; unfold Th.sz; omega
  have he' : numE t.b.length t.sz = 0 := by unfold Th.encE at he; rw [if_pos hv] at he; exact he
  have hbe := be_dig' (numE_fits (by omega) he')
  have ee : t.enc = digits t.b.length t.sz t.sz ++ t.b := by unfold Th.enc; rw [if_pos hv]
  have hll : l.length = k := by rw [hl, List.length_take, List.length_append]; omega
  have hel : t.enc.length = t.sz + t.b.length := by rw [ee]; simp [digits_len]
  have c1 : 1 ≤ (t.sz : Int) ∧ (t.sz : Int) ≤ 3 := by omega
  by_cases c2 : (l.length : Int) < (t.sz : Int)
  · simp only [vE, c1, and_self, not_true, c2, if_false, if_true]
  · have htk : l.take t.sz = digits t.b.length t.sz t.sz := by
      rw [hl, List.take_take, Nat.min_eq_left (by omega), ee, List.append_assoc, List.take_left' (digits_len _ _ _)]
    have c3 : l.length < t.sz + be (l.take t.sz) := by rw [htk, hbe]; omega
    simp only [vE, c1, and_self, not_true, c2, if_false, Int.toNat_natCast, c3, if_true]

theorem short_num {t : Th} (hv : ¬ t.vec = true) {l : List UInt8} (hk : l.length < t.enc.length) : rdE l t.sz = 4 := by
  have hs := (szOf_ok t.vec t.size).1
  have hel : t.enc.length = t.sz := by rw [enc_len, if_neg hv]
  have hs' : (1 ≤ (t.sz : Int) ∧ (t.sz : Int) ≤ 4 ∨ (t.sz : Int) = 8) := by unfold Th.sz; omega
  have c2 : (l.length : Int) < (t.sz : Int) := by omega
  simp only [rdE, hs', not_true, c2, if_false, if_true]

/-! What is kept. -/
def encs (ks : List (Th × AV)) : List UInt8 := (ks.map fun p => p.1.enc).flatten
def thC (p : Th × AV) : List AV := [.bool p.1.vec, .int .i64 p.1.size, .int .u64 p.1.n, p.2]
def kcells (ks : List (Th × AV)) : List AV := (ks.map thC).flatten
def ecells (ks : List (Th × AV)) : List AV := (List.range ks.length).map fun j => .int .i64 (encs (ks.take (j + 1))).length
theorem encs_snoc (ks : List (Th × AV)) (p : Th × AV) : encs (ks ++ [p]) = encs ks ++ p.1.enc := by simp [encs]
theorem kcells_snoc (ks : List (Th × AV)) (p : Th × AV) : kcells (ks ++ [p]) = kcells ks ++ thC p := by simp [kcells]
theorem ecells_snoc (ks : List (Th × AV)) (p : Th × AV) : ecells (ks ++ [p]) = ecells ks ++ [.int .i64 (encs (ks ++ [p])).length] := by
  unfold ecells
  rw [List.length_append, List.length_cons, List.length_nil, Nat.zero_add, List.range_succ, List.map_append]
  congr 1
  · apply List.map_congr_left
    intro j hj
    rw [List.take_append_of_le_length (by have := List.mem_range.1 hj; omega)]
  · have : ks.length + 1 = (ks ++ [p]).length := by simp
    simp only [List.map_cons, List.map_nil]
    rw [this, List.take_length]

structure J1 (h0 h : H) (al ke en : AV) (ks : List (Th × AV)) : Prop where
  ext : Ext h0 h
  al : Ow h0.n h al (encs ks)
  ke : OwC 57 4 h0.n h ke (kcells ks) ks.length
  en : OwC 3 1 h0.n h en (ecells ks) ks.length
  ok : ∀ p ∈ ks, Bs h0 p.2 p.1.b ∧ p.1.b.length ≤ 300 ∧ p.1.n < 2 ^ 64 ∧ p.1.encE = 0
  len : (encs ks).length ≤ 311 * ks.length
end Go.Det
