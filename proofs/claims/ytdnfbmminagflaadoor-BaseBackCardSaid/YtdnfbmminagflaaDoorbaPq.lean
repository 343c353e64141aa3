/- Base: texts as bytes: the plain law. -/
import Derived.Test.YtdnfbmminagflaaDoorba9
import Derived.Test.YtdnfbmminagflaaDoorbaPl
set_option linter.unusedVariables false
set_option linter.unusedSimpArgs false
set_option linter.unusedSectionVars false
namespace Go.Det
open Go.Proofs

/-- The letter of a number. -/
abbrev ltr (v : Nat) : UInt8 := Ba.table.getD v 0
theorem ltr_idx (v : Nat) (hv : v < 64) : Lib.indexByte Ba.table (ltr v) = v := by
  have : ((List.range 64).all fun v => Lib.indexByte Ba.table (ltr v) == (v : Int)) = true := by decide +kernel
  have h := List.all_eq_true.1 this v (List.mem_range.2 hv)
  exact of_decide_eq_true (by simpa using h)
theorem ltr_ne (v : Nat) (hv : v < 64) : ltr v ≠ 61 := by
  have : ((List.range 64).all fun v => ltr v != 61) = true := by decide +kernel
  have h := List.all_eq_true.1 this v (List.mem_range.2 hv)
  simpa using h
theorem index_at : ∀ (l : List UInt8) (c : UInt8), ¬ Lib.indexByte l c < 0 → l.getD (Lib.indexByte l c).toNat 0 = c
  | [], c, h => by simp [Lib.indexByte] at h
  | b :: l, c, h => by
    simp only [Lib.indexByte] at h ⊢
    split
    · rename_i e
      simpa using e
    · rename_i e
      rw [if_neg e] at h
      split
      · rename_i e2
        rw [if_pos e2] at h
        exact absurd h (by decide)
      · rename_i e2
        rw [if_neg e2] at h
        have h0 : ¬ Lib.indexByte l c < 0 := by
          have := Lib.indexByte_ge l c
          simp only [beq_iff_eq] at e2
          omega
        have e3 : (Lib.indexByte l c + 1).toNat = (Lib.indexByte l c).toNat + 1 := by omega
        rw [e3, List.getD_cons_succ]
        exact index_at l c h0

theorem sign_at (c : List UInt8) (i : Nat) (h : ¬ i > c.length) : Ba.sign c i = ltr (Ba.bits24 c / 2 ^ (18 - 6 * i) % 64) := by unfold Ba.sign; rw [if_neg h]
theorem quad3 (a b d : UInt8) : ∃ v0 v1 v2 v3, v0 < 64 ∧ v1 < 64 ∧ v2 < 64 ∧ v3 < 64 ∧ Ba.quad [a, b, d] = [ltr v0, ltr v1, ltr v2, ltr v3] ∧ v0 * 262144 + v1 * 4096 + v2 * 64 + v3 = a.toNat * 65536 + b.toNat * 256 + d.toNat := by
  have ha := a.toNat_lt
  have hb := b.toNat_lt
  have hd := d.toNat_lt
  obtain ⟨N, hN⟩ : ∃ N, N = a.toNat * 65536 + b.toNat * 256 + d.toNat := ⟨_, rfl⟩
  have e : Ba.bits24 [a, b, d] = N := by rw [hN]; rfl
  refine ⟨N / 262144 % 64, N / 4096 % 64, N / 64 % 64, N / 1 % 64, by omega, by omega, by omega, by omega, ?_, by omega⟩
  unfold Ba.quad
  rw [sign_at _ 0 (by simp), sign_at _ 1 (by simp), sign_at _ 2 (by simp), sign_at _ 3 (by simp), e]
theorem quad2 (a b : UInt8) : ∃ v0 v1 v2, v0 < 64 ∧ v1 < 64 ∧ v2 < 64 ∧ Ba.quad [a, b] = [ltr v0, ltr v1, ltr v2, 61] ∧ v0 * 4096 + v1 * 64 + v2 = a.toNat * 1024 + b.toNat * 4 := by
  have ha := a.toNat_lt
  have hb := b.toNat_lt
  obtain ⟨N, hN⟩ : ∃ N, N = a.toNat * 65536 + b.toNat * 256 + 0 := ⟨_, rfl⟩
  have e : Ba.bits24 [a, b] = N := by rw [hN]; rfl
  refine ⟨N / 262144 % 64, N / 4096 % 64, N / 64 % 64, by omega, by omega, by omega, ?_, by omega⟩
  unfold Ba.quad
  rw [sign_at _ 0 (by simp), sign_at _ 1 (by simp), sign_at _ 2 (by simp), Ba.sign_pad (by simp), e]
theorem quad1 (a : UInt8) : ∃ v0 v1, v0 < 64 ∧ v1 < 64 ∧ Ba.quad [a] = [ltr v0, ltr v1, 61, 61] ∧ v0 * 64 + v1 = a.toNat * 16 := by
  have ha := a.toNat_lt
  obtain ⟨N, hN⟩ : ∃ N, N = a.toNat * 65536 + 0 * 256 + 0 := ⟨_, rfl⟩
  have e : Ba.bits24 [a] = N := by rw [hN]; rfl
  refine ⟨N / 262144 % 64, N / 4096 % 64, by omega, by omega, ?_, by omega⟩
  unfold Ba.quad
  rw [sign_at _ 0 (by simp), sign_at _ 1 (by simp), Ba.sign_pad (by simp), Ba.sign_pad (by simp), e]

theorem u8_of (n : Nat) (a : UInt8) (h : n % 256 = a.toNat) : UInt8.ofNat n = a := UInt8.toNat_inj.1 (by rw [UInt8.toNat_ofNat']; exact h)

/-! the program's reading of what was told -/
theorem step_part {n m v : Nat} {o : List UInt8} (hv : v < 64) (h : ¬ (m + 1) % 4 = 0) : (⟨n, m, o⟩ : Got).step (ltr v) = some ⟨n * 64 + v, m + 1, o⟩ := Got.part (l := []) (ltr_idx v hv) h
theorem step_full {n m v : Nat} {o : List UInt8} (hv : v < 64) (h : (m + 1) % 4 = 0) : (⟨n, m, o⟩ : Got).step (ltr v) = some ⟨0, m + 1, o ++ tri (n * 64 + v)⟩ := Got.full (l := []) (ltr_idx v hv) h
theorem all2 {m v0 v1 : Nat} {o l : List UInt8} (h0 : v0 < 64) (h1 : v1 < 64) (hm : m % 4 = 0) : (⟨0, m, o⟩ : Got).all (ltr v0 :: ltr v1 :: l) = (⟨v0 * 64 + v1, m + 2, o⟩ : Got).all l := by
  rw [Got.go (step_part h0 (by omega)), Got.go (step_part h1 (by omega)), Nat.zero_mul, Nat.zero_add]
theorem all3 {m v0 v1 v2 : Nat} {o l : List UInt8} (h0 : v0 < 64) (h1 : v1 < 64) (h2 : v2 < 64) (hm : m % 4 = 0) : (⟨0, m, o⟩ : Got).all (ltr v0 :: ltr v1 :: ltr v2 :: l) = (⟨(v0 * 64 + v1) * 64 + v2, m + 3, o⟩ : Got).all l := by
  rw [all2 h0 h1 hm, Got.go (step_part h2 (by omega))]
theorem all4 {m v0 v1 v2 v3 : Nat} {o l : List UInt8} (h0 : v0 < 64) (h1 : v1 < 64) (h2 : v2 < 64) (h3 : v3 < 64) (hm : m % 4 = 0) : (⟨0, m, o⟩ : Got).all (ltr v0 :: ltr v1 :: ltr v2 :: ltr v3 :: l) = (⟨0, m + 4, o ++ tri (((v0 * 64 + v1) * 64 + v2) * 64 + v3)⟩ : Got).all l := by
  rw [all3 h0 h1 h2 hm, Got.go (step_full h3 (by omega))]
theorem trim_app (x : List UInt8) (e : UInt8) (he : e ≠ 61) (y : List UInt8) : Lib.trimRightB (x ++ [e] ++ y) 61 = x ++ [e] ++ Lib.trimRightB y 61 := by
  unfold Lib.trimRightB
  rw [List.reverse_append, List.dropWhile_append]
  split
  · rename_i h
    rw [List.isEmpty_iff.1 h, List.reverse_append]
    simp [he]
  · rw [List.reverse_append, List.reverse_reverse]

theorem take_b64 : ∀ (n : Nat) (o : List UInt8), o.length ≤ n → ∀ (m : Nat) (acc : List UInt8), m % 4 = 0 → ∃ g, (⟨0, m, acc⟩ : Got).all (Lib.trimRightB (Ba.b64 o) 61) = some g ∧ g.out ++ g.rest = acc ++ o := by
  intro n
  induction n using Nat.strongRecOn with
  | _ n ih =>
    intro o ho m acc hm
    match o, ho with
    | [], _ =>
      refine ⟨⟨0, m, acc⟩, rfl, ?_⟩
      have h2 : ¬ m % 4 = 2 := by omega
      have h3 : ¬ m % 4 = 3 := by omega
      simp only [Got.rest, if_neg h2, if_neg h3]
    | [a], _ =>
      obtain ⟨v0, v1, h0, h1, hq, hN⟩ := quad1 a
      have ha := a.toNat_lt
      have e := trim_app [ltr v0] (ltr v1) (ltr_ne v1 h1) [61, 61]
      have e0 : Lib.trimRightB ([61, 61] : List UInt8) 61 = [] := by decide
      rw [e0] at e
      rw [Ba.b64_last [a] (by simp) (by simp), hq]
      have e' : Lib.trimRightB [ltr v0, ltr v1, 61, 61] 61 = [ltr v0, ltr v1] := e
      rw [e', all2 h0 h1 hm]
      refine ⟨_, rfl, ?_⟩
      have h2 : (m + 2) % 4 = 2 := by omega
      simp only [Got.rest, if_pos h2]
      rw [u8_of _ a (by omega)]
    | [a, b], _ =>
      obtain ⟨v0, v1, v2, h0, h1, h2, hq, hN⟩ := quad2 a b
      have ha := a.toNat_lt
      have hb := b.toNat_lt
      have e := trim_app [ltr v0, ltr v1] (ltr v2) (ltr_ne v2 h2) [61]
      have e0 : Lib.trimRightB ([61] : List UInt8) 61 = [] := by decide
      rw [e0] at e
      rw [Ba.b64_last [a, b] (by simp) (by simp), hq]
      have e' : Lib.trimRightB [ltr v0, ltr v1, ltr v2, 61] 61 = [ltr v0, ltr v1, ltr v2] := e
      rw [e', all3 h0 h1 h2 hm]
      refine ⟨_, rfl, ?_⟩
      have h2 : ¬ (m + 3) % 4 = 2 := by omega
      have h3 : (m + 3) % 4 = 3 := by omega
      simp only [Got.rest, if_neg h2, if_pos h3]
      rw [u8_of _ a (by omega), u8_of _ b (by omega)]
    | a :: b :: d :: r, ho =>
      obtain ⟨v0, v1, v2, v3, h0, h1, h2, h3, hq, hN⟩ := quad3 a b d
      have ha := a.toNat_lt
      have hb := b.toNat_lt
      have hd := d.toNat_lt
      have e := trim_app [ltr v0, ltr v1, ltr v2] (ltr v3) (ltr_ne v3 h3) (Ba.b64 r)
      have es : Ba.b64 (a :: b :: d :: r) = Ba.quad [a, b, d] ++ Ba.b64 r := Ba.b64_step [a, b, d] r rfl
      rw [es, hq]
      have e' : Lib.trimRightB ([ltr v0, ltr v1, ltr v2, ltr v3] ++ Ba.b64 r) 61 = ltr v0 :: ltr v1 :: ltr v2 :: ltr v3 :: Lib.trimRightB (Ba.b64 r) 61 := e
      rw [e', all4 h0 h1 h2 h3 hm]
      have et : tri (((v0 * 64 + v1) * 64 + v2) * 64 + v3) = [a, b, d] := by
        unfold tri
        rw [u8_of _ a (by omega), u8_of _ b (by omega), u8_of _ d (by omega)]
      rw [et]
      obtain ⟨g, q1, q2⟩ := ih (n - 3) (by simp only [List.length_cons] at ho; omega) r (by simp only [List.length_cons] at ho; omega) (m + 4) (acc ++ [a, b, d]) (by omega)
      exact ⟨g, q1, by rw [q2]; simp⟩

/-- What was told is read. -/
theorem takeF_told (o : List UInt8) : takeF (Ba.b64 o) = some o := by
  obtain ⟨g, q1, q2⟩ := take_b64 _ o (Nat.le_refl _) 0 [] rfl
  rw [List.nil_append] at q2
  simp only [takeF, q1, q2, if_true]
theorem takeF_some {s o : List UInt8} (h : takeF s = some o) : Ba.b64 o = s := by
  unfold takeF at h
  split at h
  · cases h
  · split at h
    · rename_i e
      simp only [Option.some.injEq] at h
      rw [← h]
      exact e
    · cases h

/-! the document's -/
theorem bits_cons {c : UInt8} {l : List UInt8} {b : List Nat} (h : bitsOf (c :: l) = some b) : ∃ v b', v < 64 ∧ c = ltr v ∧ bitsOf l = some b' ∧ b = down v 6 ++ b' := by
  simp only [bitsOf] at h
  split at h
  · cases h
  · rename_i h0
    cases hb : bitsOf l with
    | none => rw [hb] at h; cases h
    | some b' =>
      rw [hb] at h
      simp only [Option.map_some, Option.some.injEq] at h
      have := index_lt c
      exact ⟨(Lib.indexByte Ba.table c).toNat, b', by omega, (index_at _ _ h0).symm, rfl, h.symm⟩
theorem bits_ltr {v : Nat} {l : List UInt8} {b : List Nat} (hv : v < 64) (h : bitsOf l = some b) : bitsOf (ltr v :: l) = some (down v 6 ++ b) := by
  have e := ltr_idx v hv
  simp only [bitsOf, e, h, Option.map_some, Int.toNat_natCast]
  rw [if_neg (by omega)]
theorem down6 (v : Nat) : down v 6 = [v / 32 % 2, v / 16 % 2, v / 8 % 2, v / 4 % 2, v / 2 % 2, v / 1 % 2] := rfl
theorem byte8 (a b c d e f g k : Nat) : byteN 0 [a, b, c, d, e, f, g, k] = a * 128 + b * 64 + c * 32 + d * 16 + e * 8 + f * 4 + g * 2 + k := by
  simp only [byteN, List.foldl]
  omega
theorem all6 : ∀ v, v < 64 → v / 32 % 2 * 32 + v / 16 % 2 * 16 + v / 8 % 2 * 8 + v / 4 % 2 * 4 + v / 2 % 2 * 2 + v / 1 % 2 = v := by decide
theorem hi4 : ∀ v, v < 64 → v / 32 % 2 * 8 + v / 16 % 2 * 4 + v / 8 % 2 * 2 + v / 4 % 2 = v / 4 := by decide
theorem hi2 : ∀ v, v < 64 → v / 32 % 2 * 2 + v / 16 % 2 = v / 16 := by decide
theorem lo4 : ∀ v, v < 64 → v / 8 % 2 * 8 + v / 4 % 2 * 4 + v / 2 % 2 * 2 + v / 1 % 2 = v % 16 := by decide
theorem lo2 : ∀ v, v < 64 → v / 2 % 2 * 2 + v / 1 % 2 = v % 4 := by decide
theorem bt0 {v w : Nat} (hv : v < 64) (hw : w < 64) : v / 32 % 2 * 128 + v / 16 % 2 * 64 + v / 8 % 2 * 32 + v / 4 % 2 * 16 + v / 2 % 2 * 8 + v / 1 % 2 * 4 + w / 32 % 2 * 2 + w / 16 % 2 = v * 4 + w / 16 := by
  have e0 := all6 v hv
  have e1 := hi2 w hw
  generalize v / 32 % 2 = a5 at *
  generalize v / 16 % 2 = a4 at *
  generalize v / 8 % 2 = a3 at *
  generalize v / 4 % 2 = a2 at *
  generalize v / 2 % 2 = a1 at *
  generalize v / 1 % 2 = a0 at *
  generalize w / 32 % 2 = b5 at *
  generalize w / 16 % 2 = b4 at *
  omega
theorem bt1 {v w : Nat} (hv : v < 64) (hw : w < 64) : v / 8 % 2 * 128 + v / 4 % 2 * 64 + v / 2 % 2 * 32 + v / 1 % 2 * 16 + w / 32 % 2 * 8 + w / 16 % 2 * 4 + w / 8 % 2 * 2 + w / 4 % 2 = v % 16 * 16 + w / 4 := by
  have e0 := lo4 v hv
  have e1 := hi4 w hw
  generalize v / 8 % 2 = a3 at *
  generalize v / 4 % 2 = a2 at *
  generalize v / 2 % 2 = a1 at *
  generalize v / 1 % 2 = a0 at *
  generalize w / 32 % 2 = b5 at *
  generalize w / 16 % 2 = b4 at *
  generalize w / 8 % 2 = b3 at *
  generalize w / 4 % 2 = b2 at *
  omega
theorem bt2 {v w : Nat} (hv : v < 64) (hw : w < 64) : v / 2 % 2 * 128 + v / 1 % 2 * 64 + w / 32 % 2 * 32 + w / 16 % 2 * 16 + w / 8 % 2 * 8 + w / 4 % 2 * 4 + w / 2 % 2 * 2 + w / 1 % 2 = v % 4 * 64 + w := by
  have e0 := lo2 v hv
  have e1 := all6 w hw
  generalize v / 2 % 2 = a1 at *
  generalize v / 1 % 2 = a0 at *
  generalize w / 32 % 2 = b5 at *
  generalize w / 16 % 2 = b4 at *
  generalize w / 8 % 2 = b3 at *
  generalize w / 4 % 2 = b2 at *
  generalize w / 2 % 2 = b1 at *
  generalize w / 1 % 2 = b0 at *
  omega
theorem out24 {v0 v1 v2 v3 : Nat} (h0 : v0 < 64) (h1 : v1 < 64) (h2 : v2 < 64) (h3 : v3 < 64) (b : List Nat) : outF (down v0 6 ++ (down v1 6 ++ (down v2 6 ++ (down v3 6 ++ b)))) = UInt8.ofNat (v0 * 4 + v1 / 16) :: UInt8.ofNat (v1 % 16 * 16 + v2 / 4) :: UInt8.ofNat (v2 % 4 * 64 + v3) :: outF b ∧ leftF (down v0 6 ++ (down v1 6 ++ (down v2 6 ++ (down v3 6 ++ b)))) = leftF b := by
  simp only [down6, List.cons_append, List.nil_append, outF, leftF, byte8]
  rw [bt0 h0 h1, bt1 h1 h2, bt2 h2 h3]
  exact ⟨rfl, trivial⟩
theorem out18 {v0 v1 v2 : Nat} (h0 : v0 < 64) (h1 : v1 < 64) (h2 : v2 < 64) : outF (down v0 6 ++ (down v1 6 ++ (down v2 6 ++ []))) = [UInt8.ofNat (v0 * 4 + v1 / 16), UInt8.ofNat (v1 % 16 * 16 + v2 / 4)] ∧ leftF (down v0 6 ++ (down v1 6 ++ (down v2 6 ++ []))) = [v2 / 2 % 2, v2 / 1 % 2] := by
  simp only [down6, List.cons_append, List.nil_append, outF, leftF, byte8]
  rw [bt0 h0 h1, bt1 h1 h2]
  exact ⟨rfl, trivial⟩
theorem out12 {v0 v1 : Nat} (h0 : v0 < 64) (h1 : v1 < 64) : outF (down v0 6 ++ (down v1 6 ++ [])) = [UInt8.ofNat (v0 * 4 + v1 / 16)] ∧ leftF (down v0 6 ++ (down v1 6 ++ [])) = [v1 / 8 % 2, v1 / 4 % 2, v1 / 2 % 2, v1 / 1 % 2] := by
  simp only [down6, List.cons_append, List.nil_append, outF, leftF, byte8]
  rw [bt0 h0 h1]
  exact ⟨rfl, trivial⟩

/-- Letters that end in one (or none at all), and padding behind. -/
theorem padF_app (x : List UInt8) (k : Nat) (hk : k ≤ 2) (hx : (x = [] ∧ k = 0) ∨ ∃ y e, x = y ++ [e] ∧ e ≠ 61) : padF (x ++ List.replicate k 61) 2 0 = k := by
  rcases hx with ⟨rfl, rfl⟩ | ⟨y, e, rfl, he⟩
  · rfl
  · have hl : (y ++ [e] ++ List.replicate k (61 : UInt8)).length = y.length + 1 + k := by simp; omega
    have last : ∀ p, p < k → (y ++ [e] ++ List.replicate k (61 : UInt8))[y.length + 1 + k - 1 - p]? = some 61 := by
      intro p hp
      rw [List.getElem?_append_right (by rw [List.length_append, List.length_singleton]; omega), List.getElem?_replicate, if_pos (by rw [List.length_append, List.length_singleton]; omega)]
    have stop : (y ++ [e] ++ List.replicate k (61 : UInt8))[y.length + 1 + k - 1 - k]? = some e := by
      rw [List.getElem?_append_left (by rw [List.length_append, List.length_singleton]; omega), List.getElem?_append_right (by omega)]
      have : y.length + 1 + k - 1 - k - y.length = 0 := by omega
      rw [this]
      rfl
    have nst : ¬ ((y ++ [e] ++ List.replicate k (61 : UInt8))[y.length + 1 + k - 1 - k]? = some 61) := by
      rw [stop]
      intro h
      exact he (Option.some.inj h)
    match k, hk with
    | 0, _ =>
      simp only [padF, hl]
      rw [if_neg (fun h => nst h.2)]
    | 1, _ =>
      simp only [padF, hl]
      rw [if_pos ⟨by omega, last 0 (by omega)⟩, if_neg (fun h => nst h.2)]
    | 2, _ =>
      simp only [padF, hl]
      rw [if_pos ⟨by omega, last 0 (by omega)⟩, if_pos ⟨by omega, last 1 (by omega)⟩]

theorem ref_b64 : ∀ (n : Nat) (o : List UInt8), o.length ≤ n → ∃ x k b, Ba.b64 o = x ++ List.replicate k 61 ∧ k ≤ 2 ∧ ((x = [] ∧ k = 0) ∨ ∃ y e, x = y ++ [e] ∧ e ≠ 61) ∧ bitsOf x = some b ∧ outF b = o ∧ (leftF b).all (fun x => x == 0) = true := by
  intro n
  induction n using Nat.strongRecOn with
  | _ n ih =>
    intro o ho
    match o, ho with
    | [], _ => exact ⟨[], 0, [], rfl, by omega, .inl ⟨rfl, rfl⟩, rfl, rfl, rfl⟩
    | [a], _ =>
      obtain ⟨v0, v1, h0, h1, hq, hN⟩ := quad1 a
      have ha := a.toNat_lt
      obtain ⟨o1, o2⟩ := out12 h0 h1
      refine ⟨[ltr v0, ltr v1], 2, _, ?_, by omega, .inr ⟨[ltr v0], ltr v1, rfl, ltr_ne v1 h1⟩, bits_ltr h0 (bits_ltr h1 rfl), ?_, ?_⟩
      · rw [Ba.b64_last [a] (by simp) (by simp), hq]; rfl
      · rw [o1, u8_of _ a (by omega)]
      · rw [o2]; simp; omega
    | [a, b], _ =>
      obtain ⟨v0, v1, v2, h0, h1, h2, hq, hN⟩ := quad2 a b
      have ha := a.toNat_lt
      have hb := b.toNat_lt
      obtain ⟨o1, o2⟩ := out18 h0 h1 h2
      refine ⟨[ltr v0, ltr v1, ltr v2], 1, _, ?_, by omega, .inr ⟨[ltr v0, ltr v1], ltr v2, rfl, ltr_ne v2 h2⟩, bits_ltr h0 (bits_ltr h1 (bits_ltr h2 rfl)), ?_, ?_⟩
      · rw [Ba.b64_last [a, b] (by simp) (by simp), hq]; rfl
      · rw [o1, u8_of _ a (by omega), u8_of _ b (by omega)]
      · rw [o2]; simp; omega
    | a :: b :: d :: r, ho =>
      obtain ⟨v0, v1, v2, v3, h0, h1, h2, h3, hq, hN⟩ := quad3 a b d
      have ha := a.toNat_lt
      have hb := b.toNat_lt
      have hd := d.toNat_lt
      simp only [List.length_cons] at ho
      obtain ⟨x, k, bs, e1, e2, e3, e4, e5, e6⟩ := ih (n - 3) (by omega) r (by omega)
      obtain ⟨o1, o2⟩ := out24 h0 h1 h2 h3 bs
      refine ⟨ltr v0 :: ltr v1 :: ltr v2 :: ltr v3 :: x, k, _, ?_, e2, .inr ?_, bits_ltr h0 (bits_ltr h1 (bits_ltr h2 (bits_ltr h3 e4))), ?_, ?_⟩
      · rw [show Ba.b64 (a :: b :: d :: r) = Ba.quad [a, b, d] ++ Ba.b64 r from Ba.b64_step [a, b, d] r rfl, hq, e1]; rfl
      · rcases e3 with ⟨rfl, _⟩ | ⟨y, e, rfl, he⟩
        · exact ⟨[ltr v0, ltr v1, ltr v2], ltr v3, rfl, ltr_ne v3 h3⟩
        · exact ⟨ltr v0 :: ltr v1 :: ltr v2 :: ltr v3 :: y, e, rfl, he⟩
      · rw [o1, e5, u8_of _ a (by omega), u8_of _ b (by omega), u8_of _ d (by omega)]
      · rw [o2]; exact e6

theorem refF_told (o : List UInt8) : refF (Ba.b64 o) = some o := by
  obtain ⟨x, k, b, e1, e2, e3, e4, e5, e6⟩ := ref_b64 _ o (Nat.le_refl _)
  have hp := padF_app x k e2 e3
  have hl := Ba.b64_length o
  have h4 : ¬ (Ba.b64 o).length % 4 ≠ 0 := by omega
  unfold refF
  rw [if_neg h4]
  have ht : (Ba.b64 o).take ((Ba.b64 o).length - padF (Ba.b64 o) 2 0) = x := by
    rw [e1, hp, List.length_append, List.length_replicate, Nat.add_sub_cancel, List.take_left']
    rfl
  rw [ht, e4]
  show (if _ then _ else _) = _
  rw [if_pos e6, e5]

theorem padF_shift (r : List UInt8) (x0 x1 x2 x3 : UInt8) : ∀ (k p : Nat), p + k ≤ r.length → padF (x0 :: x1 :: x2 :: x3 :: r) k p = padF r k p
  | 0, _, _ => rfl
  | k + 1, p, h => by
    have hc : (p < (x0 :: x1 :: x2 :: x3 :: r).length ∧ (x0 :: x1 :: x2 :: x3 :: r)[(x0 :: x1 :: x2 :: x3 :: r).length - 1 - p]? = some 61) ↔ (p < r.length ∧ r[r.length - 1 - p]? = some 61) := by
      have e : (x0 :: x1 :: x2 :: x3 :: r).length - 1 - p = (r.length - 1 - p) + 4 := by simp only [List.length_cons]; omega
      rw [e]
      show (_ ∧ r[r.length - 1 - p]? = some 61) ↔ _
      constructor
      · exact fun q => ⟨by omega, q.2⟩
      · exact fun q => ⟨by simp only [List.length_cons]; omega, q.2⟩
    simp only [padF, hc, padF_shift r x0 x1 x2 x3 k (p + 1) (by omega)]
theorem quad_of {v0 v1 v2 v3 : Nat} (h0 : v0 < 64) (h1 : v1 < 64) (h2 : v2 < 64) (h3 : v3 < 64) : Ba.quad [UInt8.ofNat (v0 * 4 + v1 / 16), UInt8.ofNat (v1 % 16 * 16 + v2 / 4), UInt8.ofNat (v2 % 4 * 64 + v3)] = [ltr v0, ltr v1, ltr v2, ltr v3] := by
  obtain ⟨w0, w1, w2, w3, k0, k1, k2, k3, hq, hN⟩ := quad3 (UInt8.ofNat (v0 * 4 + v1 / 16)) (UInt8.ofNat (v1 % 16 * 16 + v2 / 4)) (UInt8.ofNat (v2 % 4 * 64 + v3))
  simp only [UInt8.toNat_ofNat'] at hN
  rw [hq, show w0 = v0 by omega, show w1 = v1 by omega, show w2 = v2 by omega, show w3 = v3 by omega]
theorem quad_of2 {v0 v1 v2 : Nat} (h0 : v0 < 64) (h1 : v1 < 64) (h2 : v2 < 64) (hz : v2 % 4 = 0) : Ba.quad [UInt8.ofNat (v0 * 4 + v1 / 16), UInt8.ofNat (v1 % 16 * 16 + v2 / 4)] = [ltr v0, ltr v1, ltr v2, 61] := by
  obtain ⟨w0, w1, w2, k0, k1, k2, hq, hN⟩ := quad2 (UInt8.ofNat (v0 * 4 + v1 / 16)) (UInt8.ofNat (v1 % 16 * 16 + v2 / 4))
  simp only [UInt8.toNat_ofNat'] at hN
  rw [hq, show w0 = v0 by omega, show w1 = v1 by omega, show w2 = v2 by omega]
theorem quad_of1 {v0 v1 : Nat} (h0 : v0 < 64) (h1 : v1 < 64) (hz : v1 % 16 = 0) : Ba.quad [UInt8.ofNat (v0 * 4 + v1 / 16)] = [ltr v0, ltr v1, 61, 61] := by
  obtain ⟨w0, w1, k0, k1, hq, hN⟩ := quad1 (UInt8.ofNat (v0 * 4 + v1 / 16))
  simp only [UInt8.toNat_ofNat'] at hN
  rw [hq, show w0 = v0 by omega, show w1 = v1 by omega]

theorem ref_back : ∀ (n : Nat) (s : List UInt8) (b : List Nat), s.length ≤ n → s.length % 4 = 0 → bitsOf (s.take (s.length - padF s 2 0)) = some b → (leftF b).all (fun x => x == 0) = true → Ba.b64 (outF b) = s := by
  intro n
  induction n using Nat.strongRecOn with
  | _ n ih =>
    intro s b hs h4 hb hz
    match s, hs, h4, hb with
    | [], _, _, hb =>
      simp only [List.take_nil, bitsOf, Option.some.injEq] at hb
      rw [← hb]
      rfl
    | [_], _, h4, _ => simp at h4
    | [_, _], _, h4, _ => simp at h4
    | [_, _, _], _, h4, _ => simp at h4
    | [x0, x1, x2, x3], _, _, hb =>
      by_cases e3 : x3 = 61
      · by_cases e2 : x2 = 61
        · have hp : padF [x0, x1, x2, x3] 2 0 = 2 := by simp [padF, e3, e2]
          rw [hp] at hb
          replace hb : bitsOf [x0, x1] = some b := hb
          obtain ⟨v0, b0, h0, rfl, hb0, rfl⟩ := bits_cons hb
          obtain ⟨v1, b1, h1, rfl, hb1, rfl⟩ := bits_cons hb0
          simp only [bitsOf, Option.some.injEq] at hb1
          subst hb1
          obtain ⟨o1, o2⟩ := out12 h0 h1
          rw [o2] at hz
          simp at hz
          rw [o1, Ba.b64_last _ (by simp) (by simp), quad_of1 h0 h1 (by omega), e2, e3]
        · have hp : padF [x0, x1, x2, x3] 2 0 = 1 := by simp [padF, e3, e2]
          rw [hp] at hb
          replace hb : bitsOf [x0, x1, x2] = some b := hb
          obtain ⟨v0, b0, h0, rfl, hb0, rfl⟩ := bits_cons hb
          obtain ⟨v1, b1, h1, rfl, hb1, rfl⟩ := bits_cons hb0
          obtain ⟨v2, b2, h2, rfl, hb2, rfl⟩ := bits_cons hb1
          simp only [bitsOf, Option.some.injEq] at hb2
          subst hb2
          obtain ⟨o1, o2⟩ := out18 h0 h1 h2
          rw [o2] at hz
          simp at hz
          rw [o1, Ba.b64_last _ (by simp) (by simp), quad_of2 h0 h1 h2 (by omega), e3]
      · have hp : padF [x0, x1, x2, x3] 2 0 = 0 := by simp [padF, e3]
        rw [hp] at hb
        replace hb : bitsOf [x0, x1, x2, x3] = some b := hb
        obtain ⟨v0, b0, h0, rfl, hb0, rfl⟩ := bits_cons hb
        obtain ⟨v1, b1, h1, rfl, hb1, rfl⟩ := bits_cons hb0
        obtain ⟨v2, b2, h2, rfl, hb2, rfl⟩ := bits_cons hb1
        obtain ⟨v3, b3, h3, rfl, hb3, rfl⟩ := bits_cons hb2
        simp only [bitsOf, Option.some.injEq] at hb3
        subst hb3
        obtain ⟨o1, o2⟩ := out24 h0 h1 h2 h3 []
        rw [o1]
        have := Ba.b64_step [UInt8.ofNat (v0 * 4 + v1 / 16), UInt8.ofNat (v1 % 16 * 16 + v2 / 4), UInt8.ofNat (v2 % 4 * 64 + v3)] [] rfl
        rw [quad_of h0 h1 h2 h3] at this
        exact this
    | x0 :: x1 :: x2 :: x3 :: y :: r, hs, h4, hb =>
      have hr : 2 ≤ (y :: r).length := by simp only [List.length_cons] at h4 ⊢; omega
      have hp := padF_shift (y :: r) x0 x1 x2 x3 2 0 (by omega)
      rw [hp] at hb
      have hpl : padF (y :: r) 2 0 ≤ (y :: r).length := by
        have : ∀ (k p : Nat), p + k ≤ (y :: r).length → padF (y :: r) k p ≤ (y :: r).length := by
          intro k
          induction k with
          | zero => intro p h; exact h
          | succ k ik =>
            intro p h
            simp only [padF]
            split
            · exact ik (p + 1) (by omega)
            · omega
        exact this 2 0 (by omega)
      have et : (x0 :: x1 :: x2 :: x3 :: y :: r).take ((x0 :: x1 :: x2 :: x3 :: y :: r).length - padF (y :: r) 2 0) = x0 :: x1 :: x2 :: x3 :: (y :: r).take ((y :: r).length - padF (y :: r) 2 0) := by
        have e : (x0 :: x1 :: x2 :: x3 :: y :: r).length - padF (y :: r) 2 0 = ((y :: r).length - padF (y :: r) 2 0) + 4 := by
          simp only [List.length_cons] at hpl ⊢; omega
        rw [e]
        rfl
      rw [et] at hb
      obtain ⟨v0, b0, h0, rfl, hb0, rfl⟩ := bits_cons hb
      obtain ⟨v1, b1, h1, rfl, hb1, rfl⟩ := bits_cons hb0
      obtain ⟨v2, b2, h2, rfl, hb2, rfl⟩ := bits_cons hb1
      obtain ⟨v3, b3, h3, rfl, hb3, rfl⟩ := bits_cons hb2
      obtain ⟨o1, o2⟩ := out24 h0 h1 h2 h3 b3
      rw [o2] at hz
      have h5 := ih (n - 4) (by simp only [List.length_cons] at hs; omega) (y :: r) b3 (by simp only [List.length_cons] at hs ⊢; omega) (by simp only [List.length_cons] at h4 ⊢; omega) hb3 hz
      rw [o1]
      have := Ba.b64_step [UInt8.ofNat (v0 * 4 + v1 / 16), UInt8.ofNat (v1 % 16 * 16 + v2 / 4), UInt8.ofNat (v2 % 4 * 64 + v3)] (outF b3) rfl
      rw [quad_of h0 h1 h2 h3, h5] at this
      exact this

theorem refF_some {s o : List UInt8} (h : refF s = some o) : Ba.b64 o = s := by
  unfold refF at h
  split at h
  · cases h
  · rename_i h4
    split at h
    · cases h
    · rename_i b hb
      split at h
      · rename_i hz
        simp only [Option.some.injEq] at h
        rw [← h]
        exact ref_back _ s b (Nat.le_refl _) (by omega) hb hz
      · cases h

/-- Both readings are one. -/
theorem take_ref (s : List UInt8) : takeF s = refF s := by
  cases h1 : takeF s with
  | some o =>
    have := takeF_some h1
    rw [← this, refF_told]
  | none =>
    cases h2 : refF s with
    | none => rfl
    | some o =>
      have := refF_some h2
      rw [← this, takeF_told] at h1
      cases h1
end Go.Det
