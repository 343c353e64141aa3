/- Reply: both readings are one: plain. -/
import Derived.Test.YtcobmomjdbmacaaDoorreDef
import Derived.KernelRfl
set_option linter.unusedVariables false
set_option linter.unusedSimpArgs false
namespace Go.Proofs.Re

def mark : List UInt8 := [67, 111, 110, 116, 101, 110, 116, 45, 76, 101, 110, 103, 116, 104, 58, 32]
/-- The numbers that the document's reading tries. -/
def nums : List UInt8 → List Nat
  | [] => [0]
  | c :: r => if mark.isPrefixOf (c :: r) then [val (dgs 7 ((c :: r).drop 16)), 10 * val (dgs 7 ((c :: r).drop 16))] else nums r
/-- The document's reading: one head after the other. -/
def scan (b : List UInt8) : List (Nat × Nat × Bool) → Bool → Res
  | [], may => if may then .more else .form
  | (st, k, c) :: l, may =>
    if k > most then scan b l may
    else if (head st k c).isPrefixOf (b.take 200) then (if b.length < (head st k c).length + k then .more else .ok st k c)
    else scan b l (may || b.isPrefixOf (head st k c))
def pairs (st k : Nat) : List (Nat × Nat × Bool) := [(st, k, false), (st, k, true)]
def tries (l : List Nat) (st : Nat) : List (Nat × Nat × Bool) := l.flatMap (pairs st)
def takeR (b : List UInt8) : Res := scan b (codes.flatMap (tries (nums (b.take 200)))) false

/-- The lines as they are. -/
theorem pre_iff {x y : List UInt8} : x.isPrefixOf y = true ↔ ∃ r, y = x ++ r := by
  rw [List.isPrefixOf_iff_prefix]
  exact ⟨fun ⟨r, h⟩ => ⟨r, h.symm⟩, fun ⟨r, h⟩ => ⟨r, h.symm⟩⟩
/-- Somewhere they differ. -/
def clash : List UInt8 → List UInt8 → Bool
  | a :: x, b :: y => a != b || clash x y
  | _, _ => false
theorem clash_app : ∀ (x y : List UInt8), clash x y = true → ∀ (r s : List UInt8), x ++ r ≠ y ++ s
  | [], _, h, _, _ => by simp [clash] at h
  | _ :: _, [], h, _, _ => by simp [clash] at h
  | a :: x, b :: y, h, r, s => by
    intro e
    simp only [List.cons_append, List.cons.injEq] at e
    simp only [clash, Bool.or_eq_true, bne_iff_ne, ne_eq] at h
    rcases h with h | h
    · exact h e.1
    · exact clash_app x y h r s e.2
theorem clash_more : ∀ (x y r s : List UInt8), clash x y = true → clash (x ++ r) (y ++ s) = true
  | [], _, _, _, h => by simp [clash] at h
  | _ :: _, [], _, _, h => by simp [clash] at h
  | a :: x, b :: y, r, s, h => by
    simp only [clash, Bool.or_eq_true, bne_iff_ne, ne_eq] at h
    simp only [List.cons_append, clash, Bool.or_eq_true, bne_iff_ne, ne_eq]
    rcases h with h | h
    · exact .inl h
    · exact .inr (clash_more x y r s h)
theorem clash_pre {x y : List UInt8} (h : clash x y = true) : x.isPrefixOf y = false ∧ y.isPrefixOf x = false := by
  constructor
  · cases hp : x.isPrefixOf y with
    | false => rfl
    | true =>
      obtain ⟨r, e⟩ := pre_iff.1 hp
      exact absurd (by rw [e, List.append_nil] : x ++ r = y ++ []) (clash_app x y h r [])
  · cases hp : y.isPrefixOf x with
    | false => rfl
    | true =>
      obtain ⟨r, e⟩ := pre_iff.1 hp
      exact absurd (by rw [e, List.append_nil] : x ++ [] = y ++ r) (clash_app x y h [] r)
theorem app_pre (x y z : List UInt8) : (x ++ y).isPrefixOf (x ++ z) = y.isPrefixOf z := by
  induction x with
  | nil => rfl
  | cons a x ih => simp [List.isPrefixOf, ih]

/-! digits -/
theorem dgs_nil (k : Nat) : dgs k [] = [] := by cases k <;> rfl
theorem dgs_all : ∀ (k : Nat) (r : List UInt8), ∀ c ∈ dgs k r, isDig c = true
  | 0, _, c, h => by simp [dgs] at h
  | k + 1, [], c, h => by simp [dgs] at h
  | k + 1, x :: r, c, h => by
    simp only [dgs] at h
    split at h
    · rename_i hx
      rcases List.mem_cons.1 h with rfl | h
      · exact hx
      · exact dgs_all k r c h
    · simp at h
theorem dgs_len : ∀ (k : Nat) (r : List UInt8), (dgs k r).length ≤ k
  | 0, _ => by simp [dgs]
  | k + 1, [] => by simp [dgs]
  | k + 1, x :: r => by
    simp only [dgs]
    split
    · have := dgs_len k r; simp; omega
    · simp
theorem dgs_split : ∀ (k : Nat) (r : List UInt8), ∃ s, r = dgs k r ++ s ∧ ((dgs k r).length = k ∨ s = [] ∨ ∃ c t, s = c :: t ∧ isDig c = false)
  | 0, r => ⟨r, by simp [dgs], .inl rfl⟩
  | k + 1, [] => ⟨[], rfl, .inr (.inl rfl)⟩
  | k + 1, x :: r => by
    simp only [dgs]
    split
    · obtain ⟨s, e1, e2⟩ := dgs_split k r
      refine ⟨s, by rw [List.cons_append, ← e1], ?_⟩
      rcases e2 with e2 | e2
      · exact .inl (by rw [List.length_cons, e2])
      · exact .inr e2
    · rename_i hx
      exact ⟨x :: r, rfl, .inr (.inr ⟨x, r, rfl, by simpa using hx⟩)⟩
/-- Digits, and then something else. -/
theorem dgs_app : ∀ (d s : List UInt8) (k : Nat), (∀ c ∈ d, isDig c = true) → d.length ≤ k → (s = [] ∨ ∃ c t, s = c :: t ∧ isDig c = false) → dgs k (d ++ s) = d
  | [], s, k, _, _, hs => by
    rcases hs with rfl | ⟨c, t, rfl, hc⟩
    · exact dgs_nil k
    · cases k with
      | zero => rfl
      | succ k => simp [dgs, hc]
  | x :: d, s, 0, _, hk, _ => by simp at hk
  | x :: d, s, k + 1, hd, hk, hs => by
    simp only [List.cons_append, dgs]
    rw [if_pos (hd x (by simp)), dgs_app d s k (fun c hc => hd c (List.mem_cons_of_mem _ hc)) (by simpa using hk) hs]
theorem dgs_take : ∀ (k m : Nat) (r : List UInt8), k ≤ m → dgs k (r.take m) = dgs k r
  | 0, _, _, _ => by simp [dgs]
  | k + 1, 0, _, h => by omega
  | k + 1, m + 1, [], _ => rfl
  | k + 1, m + 1, x :: r, h => by
    simp only [List.take_succ_cons, dgs]
    rw [dgs_take k m r (by omega)]

theorem dig_of (n : Nat) (h : n < 10) : isDig (UInt8.ofNat (48 + n)) = true ∧ (UInt8.ofNat (48 + n)).toNat - 48 = n := by
  have e : (UInt8.ofNat (48 + n)).toNat = 48 + n := by rw [UInt8.toNat_ofNat']; omega
  simp only [isDig, e]
  simp
  omega
theorem val_snoc (l : List UInt8) (c : UInt8) : val (l ++ [c]) = 10 * val l + (c.toNat - 48) := by simp [val, List.foldl_append]
theorem digsF_val : ∀ (f u : Nat), u < 10 ^ f → f ≠ 0 → val (digsF f u) = u ∧ (∀ c ∈ digsF f u, isDig c = true) ∧ digsF f u ≠ []
  | 0, _, _, h => absurd rfl h
  | f + 1, u, h, _ => by
    simp only [digsF]
    split
    · rename_i h1
      obtain ⟨a, b⟩ := dig_of u h1
      exact ⟨by show 10 * 0 + ((UInt8.ofNat (48 + u)).toNat - 48) = u; omega, by simpa using a, by simp⟩
    · rename_i h1
      have hf : f ≠ 0 := by
        rintro rfl
        simp at h
        omega
      obtain ⟨a, b, c⟩ := digsF_val f (u / 10) (by rw [Nat.pow_succ] at h; omega) hf
      obtain ⟨p, q⟩ := dig_of (u % 10) (by omega)
      refine ⟨by rw [val_snoc, a, q]; omega, ?_, by simp⟩
      intro x hx
      rcases List.mem_append.1 hx with hx | hx
      · exact b x hx
      · rw [List.mem_singleton.1 hx]; exact p
theorem dec_val {u : Nat} (h : u < 10 ^ 20) : val (dec u) = u := (digsF_val 20 u h (by omega)).1
theorem dec_dig {u : Nat} (h : u < 10 ^ 20) : ∀ c ∈ dec u, isDig c = true := (digsF_val 20 u h (by omega)).2.1
theorem dec_ne {u : Nat} (h : u < 10 ^ 20) : dec u ≠ [] := (digsF_val 20 u h (by omega)).2.2
theorem digsF_len : ∀ (f u k : Nat), u < 10 ^ k → 1 ≤ k → (digsF f u).length ≤ k
  | 0, _, _, _, _ => by simp [digsF]
  | f + 1, u, k, h, hk => by
    simp only [digsF]
    split
    · simp; omega
    · rename_i h1
      obtain ⟨j, rfl⟩ : ∃ j, k = j + 1 := ⟨k - 1, by omega⟩
      have hj : 1 ≤ j := by
        rcases Nat.eq_zero_or_pos j with rfl | hj
        · simp at h; omega
        · exact hj
      have := digsF_len f (u / 10) j (by rw [Nat.pow_succ] at h; omega) hj
      simp
      omega
theorem dec_len7 {u : Nat} (h : u ≤ most) : (dec u).length ≤ 7 := digsF_len 20 u 7 (by unfold most at h; omega) (by omega)
theorem dec_small {u : Nat} (h : u ≤ most) : u < 10 ^ 20 := Nat.lt_of_le_of_lt h (by decide)
theorem digsF_succ : ∀ (f u : Nat), u < 10 ^ f → f ≠ 0 → digsF (f + 1) u = digsF f u
  | 0, _, _, h => absurd rfl h
  | f + 1, u, h1, _ => by
    rw [digsF]
    conv => rhs; rw [digsF]
    split
    · rfl
    · rename_i h9
      have hf : f ≠ 0 := by
        rintro rfl
        simp at h1
        omega
      rw [digsF_succ f (u / 10) (by rw [Nat.pow_succ] at h1; omega) hf]
/-- The last digit. -/
theorem dec_step {u : Nat} (h : u < 10 ^ 19) (h0 : ¬ u < 10) : dec u = dec (u / 10) ++ [UInt8.ofNat (48 + u % 10)] := by
  unfold dec
  conv => lhs; rw [digsF, if_neg h0]
  rw [digsF_succ 19 (u / 10) (by omega) (by omega)]
theorem dec_one {u : Nat} (h : u < 10) : dec u = [UInt8.ofNat (48 + u)] := by
  unfold dec
  rw [digsF, if_pos h]
/-- Ten times a number. -/
theorem dec_ten {u : Nat} (h : u ≤ most) (h0 : u ≠ 0) : dec (10 * u) = dec u ++ [48] := by
  have h19 : 10 * u < 10 ^ 19 := Nat.lt_of_le_of_lt (Nat.mul_le_mul_left 10 h) (by decide)
  rw [dec_step h19 (by omega), show 10 * u / 10 = u by omega, show 10 * u % 10 = 0 by omega]
  rfl
/-- A numeral's beginning is a numeral. -/
theorem dec_pre : ∀ (n k : Nat) (d t : List UInt8), t.length = n → k ≤ most → dec k = d ++ t → d ≠ [] → dec (val d) = d ∧ val d ≤ k
  | 0, k, d, t, ht, hk, e, hd => by
    obtain rfl : t = [] := List.eq_nil_of_length_eq_zero ht
    rw [List.append_nil] at e
    rw [← e, dec_val (dec_small hk)]
    exact ⟨rfl, Nat.le_refl _⟩
  | n + 1, k, d, t, ht, hk, e, hd => by
    have ht0 : t ≠ [] := by rintro rfl; simp at ht
    by_cases h10 : k < 10
    · rw [dec_one h10] at e
      have hl := congrArg List.length e
      rw [List.length_append] at hl
      have : 1 ≤ d.length := by cases d <;> simp_all
      simp at hl
      omega
    · have h19 : k < 10 ^ 19 := Nat.lt_of_le_of_lt hk (by decide)
      rw [dec_step h19 h10] at e
      rw [← List.dropLast_concat_getLast ht0, ← List.append_assoc] at e
      have e1 := (List.append_inj' e rfl).1
      obtain ⟨a, b⟩ := dec_pre n (k / 10) d t.dropLast (by rw [List.length_dropLast]; omega) (by omega) e1 hd
      exact ⟨a, by omega⟩

/-- A number's numeral and something that is no digit, held against bytes: what the bytes' digits are then. -/
theorem compat {k : Nat} (hk : k ≤ most) {e r : List UInt8} {x : UInt8} {e' : List UInt8} (he : e = x :: e') (hx : isDig x = false) (h : (dec k ++ e).isPrefixOf r = true ∨ r.isPrefixOf (dec k ++ e) = true) :
    (r = []) ∨ (dgs 8 r ≠ [] ∧ (∃ t, dec k = dgs 8 r ++ t ∧ (t = [] ∨ r = dgs 8 r))) := by
  have hs := dec_small hk
  have hd := dec_dig hs
  have hl := dec_len7 hk
  rcases h with h | h
  · obtain ⟨s, rfl⟩ := pre_iff.1 h
    right
    have e1 : dgs 8 (dec k ++ e ++ s) = dec k := by
      rw [List.append_assoc]
      exact dgs_app _ _ 8 hd (by omega) (.inr ⟨x, e' ++ s, by rw [he]; rfl, hx⟩)
    rw [e1]
    exact ⟨dec_ne hs, [], by simp, .inl rfl⟩
  · obtain ⟨s, e1⟩ := pre_iff.1 h
    rcases List.append_eq_append_iff.1 e1 with ⟨t, e2, e3⟩ | ⟨t, e2, e3⟩
    · -- r goes on behind the numeral
      right
      have hr : dgs 8 r = dec k := by
        rw [e2]
        refine dgs_app _ _ 8 hd (by omega) ?_
        cases t with
        | nil => exact .inl rfl
        | cons y t =>
          rw [he] at e3
          simp only [List.cons_append, List.cons.injEq] at e3
          exact .inr ⟨y, t, rfl, by rw [← e3.1]; exact hx⟩
      rw [hr]
      exact ⟨dec_ne hs, [], by simp, .inl rfl⟩
    · -- r is the numeral's beginning
      have hr : dgs 8 r = r := by
        have := dgs_app r [] 8 (fun c hc => hd c (by rw [e2]; exact List.mem_append_left _ hc)) (by have := congrArg List.length e2; rw [List.length_append] at this; omega) (.inl rfl)
        rwa [List.append_nil] at this
      by_cases h0 : r = []
      · exact .inl h0
      · right
        rw [hr]
        exact ⟨h0, t, e2, .inr rfl⟩
/-- The same: what is told. -/
theorem compat_told {k : Nat} (hk : k ≤ most) {e r : List UInt8} {x : UInt8} {e' : List UInt8} (he : e = x :: e') (hx : isDig x = false) (h : (dec k ++ e).isPrefixOf r = true ∨ r.isPrefixOf (dec k ++ e) = true) :
    r = [] ∨ (dgs 8 r ≠ [] ∧ dec (val (dgs 8 r)) = dgs 8 r ∧ val (dgs 8 r) ≤ most) := by
  rcases compat hk he hx h with h | ⟨h1, t, h2, _⟩
  · exact .inl h
  · obtain ⟨a, b⟩ := dec_pre t.length k (dgs 8 r) t rfl hk h2 h1
    exact .inr ⟨h1, a, Nat.le_trans b hk⟩

/-! one head after the other -/
def Dead (b : List UInt8) (t : Nat × Nat × Bool) : Prop := t.2.1 > most ∨ ((head t.1 t.2.1 t.2.2).isPrefixOf (b.take 200) = false ∧ b.isPrefixOf (head t.1 t.2.1 t.2.2) = false)
theorem scan_dead (b : List UInt8) : ∀ (L L' : List (Nat × Nat × Bool)) (may : Bool), (∀ t ∈ L, Dead b t) → scan b (L ++ L') may = scan b L' may
  | [], _, _, _ => rfl
  | (st, k, c) :: L, L', may, h => by
    have ih := fun m => scan_dead b L L' m (fun t ht => h t (List.mem_cons_of_mem _ ht))
    simp only [List.cons_append, scan]
    rcases h (st, k, c) (by simp) with h1 | ⟨h1, h2⟩
    · rw [if_pos h1, ih]
    · simp only at h1 h2
      rw [h1, h2, Bool.or_false, ih]
      simp
theorem scan_flat (b : List UInt8) (l : List Nat) (st : Nat) : ∀ (cs : List Nat) (may : Bool), (∀ s ∈ cs, s ≠ st → ∀ t ∈ tries l s, Dead b t) → scan b (cs.flatMap (tries l)) may = scan b ((cs.filter (· == st)).flatMap (tries l)) may
  | [], _, _ => rfl
  | s :: cs, may, h => by
    have ih := fun m => scan_flat b l st cs m (fun s' hs' => h s' (List.mem_cons_of_mem _ hs'))
    by_cases hs : s = st
    · subst hs
      simp only [List.filter_cons, BEq.rfl, if_true, List.flatMap_cons]
      generalize tries l s = A
      have key : ∀ (A : List (Nat × Nat × Bool)) (m : Bool), scan b (A ++ cs.flatMap (tries l)) m = scan b (A ++ (cs.filter (· == s)).flatMap (tries l)) m := by
        intro A
        induction A with
        | nil => intro m; exact ih m
        | cons t A iA =>
          intro m
          obtain ⟨x, k, c⟩ := t
          simp only [List.cons_append, scan, iA]
      exact key A may
    · rw [List.flatMap_cons, scan_dead b _ _ _ (h s (by simp) hs), ih]
      simp [List.filter_cons, hs]
/-- Where no head fits whole. -/
theorem scan_no (b : List UInt8) : ∀ (L : List (Nat × Nat × Bool)) (may : Bool), (∀ t ∈ L, (head t.1 t.2.1 t.2.2).isPrefixOf (b.take 200) = false) → scan b L may = cond (may || L.any (fun t => decide (t.2.1 ≤ most) && b.isPrefixOf (head t.1 t.2.1 t.2.2))) .more .form
  | [], may, _ => by cases may <;> rfl
  | (st, k, c) :: L, may, h => by
    have ih := fun m => scan_no b L m (fun t ht => h t (List.mem_cons_of_mem _ ht))
    have h1 := h (st, k, c) (by simp)
    simp only at h1
    simp only [List.any_cons]
    by_cases hk : k > most
    · have hd : decide (k ≤ most) = false := decide_eq_false (by omega)
      rw [scan, if_pos hk, ih, hd, Bool.false_and, Bool.false_or]
    · have hd : decide (k ≤ most) = true := decide_eq_true (by omega)
      rw [scan, if_neg hk, h1, hd, Bool.true_and, ← Bool.or_assoc]
      exact ih _

/-! the lines -/
theorem code_cases {st : Nat} (h : st ∈ codes) : st = 200 ∨ st = 400 ∨ st = 404 ∨ st = 405 ∨ st = 500 ∨ st = 503 := by simpa [codes] using h
theorem line_clash : ∀ st ∈ codes, ∀ s ∈ codes, s ≠ st → clash (line s) (line st) = true := by decide +kernel
theorem line_len : ∀ st ∈ codes, (line st).length ≤ 100 := by decide +kernel
theorem code_filter : ∀ st ∈ codes, codes.filter (· == st) = [st] := by decide +kernel
theorem nums_cut : ∀ st ∈ codes, ∀ m < (line st).length, nums (((line st).take m).take 200) = [0] := by decide +kernel
set_option maxRecDepth 10000 in
theorem nums_line {st : Nat} (h : st ∈ codes) (r : List UInt8) : nums (line st ++ r) = [val (dgs 7 r), 10 * val (dgs 7 r)] := by
  rcases code_cases h with rfl | rfl | rfl | rfl | rfl | rfl
  all_goals kernel_rfl

theorem head_app (st k : Nat) (c : Bool) : head st k c = line st ++ (dec k ++ ending c) := by unfold head; rw [List.append_assoc]
theorem ending_cons (c : Bool) : ∃ e, ending c = 13 :: e := by cases c <;> exact ⟨_, rfl⟩
theorem ending_len (c : Bool) : (ending c).length ≤ 23 := by cases c <;> decide

/-- Cut off at 200: no less is seen. -/
theorem pre_take (x y : List UInt8) (n : Nat) (h : x.length ≤ n) : x.isPrefixOf (y.take n) = x.isPrefixOf y := by
  rw [Bool.eq_iff_iff, List.isPrefixOf_iff_prefix, List.isPrefixOf_iff_prefix]
  rw [List.prefix_take_iff]
  exact ⟨fun q => q.1, fun q => ⟨q, h⟩⟩

/-- Where a line stands ahead, only its heads count. -/
theorem takeR_line {st : Nat} (h : st ∈ codes) (r : List UInt8) : takeR (line st ++ r) = scan (line st ++ r) (tries [val (dgs 7 r), 10 * val (dgs 7 r)] st) false := by
  have hl := line_len st h
  have et : (line st ++ r).take 200 = line st ++ r.take (200 - (line st).length) := by
    rw [List.take_append]
    rw [List.take_of_length_le (by omega)]
  unfold takeR
  rw [et, nums_line h, dgs_take 7 _ r (by omega)]
  rw [scan_flat _ _ st codes false, code_filter st h]
  · simp
  · intro s hs hne t ht
    have hc := line_clash st h s hs hne
    right
    have e1 : t.1 = s := by
      simp only [tries, pairs, List.mem_flatMap, List.mem_cons, List.not_mem_nil, or_false] at ht
      obtain ⟨k, _, ht⟩ := ht
      rcases ht with rfl | rfl <;> rfl
    rw [e1, head_app, et]
    exact ⟨(clash_pre (clash_more _ _ _ _ hc)).1, (clash_pre (clash_more _ _ _ _ hc)).2⟩

/-- One of its heads. -/
theorem scan_one {st : Nat} (h : st ∈ codes) (r : List UInt8) (k : Nat) (c : Bool) (L : List (Nat × Nat × Bool)) (may : Bool) (hk : k ≤ most) :
    scan (line st ++ r) ((st, k, c) :: L) may = if (dec k ++ ending c).isPrefixOf r then (if r.length < (dec k ++ ending c).length + k then .more else .ok st k c) else scan (line st ++ r) L (may || r.isPrefixOf (dec k ++ ending c)) := by
  have hl := line_len st h
  have he := ending_len c
  have hd := dec_len7 hk
  have hh : (head st k c).length ≤ 200 := by rw [head_app, List.length_append, List.length_append]; omega
  rw [scan, if_neg (by omega), pre_take _ _ _ hh, head_app, app_pre, app_pre, List.length_append, List.length_append]
  have e : (line st).length + r.length < (line st).length + (dec k ++ ending c).length + k ↔ r.length < (dec k ++ ending c).length + k := by omega
  simp only [e]
theorem scan_big (b : List UInt8) (st k : Nat) (c : Bool) (L : List (Nat × Nat × Bool)) (may : Bool) (hk : k > most) : scan b ((st, k, c) :: L) may = scan b L may := by rw [scan, if_pos hk]

/-- The endings told apart. -/
theorem ends (rest : List UInt8) (x : Bool) (hx : x = true → rest = []) (f : Bool → Res) :
    (if staying.isPrefixOf rest then f false else if closing.isPrefixOf rest then f true else if (rest.isPrefixOf staying || rest.isPrefixOf closing) || x then Res.more else .form) =
    (if rest.length < (ending ((closing.take 3).isPrefixOf rest)).length then (if rest.isPrefixOf (ending ((closing.take 3).isPrefixOf rest)) then Res.more else .form)
     else if !(ending ((closing.take 3).isPrefixOf rest)).isPrefixOf rest then .form else f ((closing.take 3).isPrefixOf rest)) := by
  by_cases hA : staying.isPrefixOf rest = true
  · obtain ⟨t, rfl⟩ := pre_iff.1 hA
    have e1 : (closing.take 3).isPrefixOf (staying ++ t) = false := by kernel_rfl
    rw [e1, if_pos hA]
    have e2 : ¬ (staying ++ t).length < (ending false).length := by show ¬ (staying ++ t).length < staying.length; rw [List.length_append]; omega
    rw [if_neg e2]
    show f false = if (!staying.isPrefixOf (staying ++ t)) = true then _ else _
    rw [hA]
    rfl
  · rw [if_neg hA]
    by_cases hB : closing.isPrefixOf rest = true
    · obtain ⟨t, rfl⟩ := pre_iff.1 hB
      have e1 : (closing.take 3).isPrefixOf (closing ++ t) = true := by kernel_rfl
      rw [e1, if_pos hB]
      have e2 : ¬ (closing ++ t).length < (ending true).length := by show ¬ (closing ++ t).length < closing.length; rw [List.length_append]; omega
      rw [if_neg e2]
      show f true = if (!closing.isPrefixOf (closing ++ t)) = true then _ else _
      rw [hB]
      rfl
    · rw [if_neg hB]
      by_cases hC : (closing.take 3).isPrefixOf rest = true
      · rw [hC]
        obtain ⟨t, rfl⟩ := pre_iff.1 hC
        have hx0 : x = false := by
          cases x with
          | false => rfl
          | true => exact absurd (hx rfl) (by simp [closing])
        have e1 : ((closing.take 3) ++ t).isPrefixOf staying = false := by kernel_rfl
        rw [hx0, e1, Bool.false_or, Bool.or_false]
        show _ = if (closing.take 3 ++ t).length < closing.length then (if (closing.take 3 ++ t).isPrefixOf closing = true then _ else _) else if (!closing.isPrefixOf (closing.take 3 ++ t)) = true then _ else _
        by_cases hl : (closing.take 3 ++ t).length < closing.length
        · rw [if_pos hl]
        · rw [if_neg hl]
          have e2 : (closing.take 3 ++ t).isPrefixOf closing = false := by
            cases hp : (closing.take 3 ++ t).isPrefixOf closing with
            | false => rfl
            | true =>
              obtain ⟨u, e⟩ := pre_iff.1 hp
              have el := congrArg List.length e
              rw [List.length_append] at el
              obtain rfl : u = [] := List.eq_nil_of_length_eq_zero (by omega)
              rw [List.append_nil] at e
              exact absurd (pre_iff.2 ⟨[], by rw [List.append_nil]; exact e.symm⟩) hB
          have hB' : closing.isPrefixOf (closing.take 3 ++ t) = false := Bool.eq_false_iff.2 hB
          rw [e2, hB']
          rfl
      · have hC' : (closing.take 3).isPrefixOf rest = false := Bool.eq_false_iff.2 hC
        rw [hC']
        show _ = if rest.length < staying.length then (if rest.isPrefixOf staying = true then _ else _) else if (!staying.isPrefixOf rest) = true then _ else _
        have hA' : staying.isPrefixOf rest = false := Bool.eq_false_iff.2 hA
        by_cases hs : rest.isPrefixOf staying = true
        · rw [hs, Bool.true_or, Bool.true_or, if_pos rfl]
          have hl : rest.length < staying.length := by
            obtain ⟨u, e⟩ := pre_iff.1 hs
            have el := congrArg List.length e
            rw [List.length_append] at el
            rcases Nat.lt_or_ge rest.length staying.length with q | q
            · exact q
            · obtain rfl : u = [] := List.eq_nil_of_length_eq_zero (by omega)
              rw [List.append_nil] at e
              exact absurd (pre_iff.2 ⟨[], by rw [List.append_nil]; exact e.symm⟩) hA
          rw [if_pos hl]
        · have hs' : rest.isPrefixOf staying = false := Bool.eq_false_iff.2 hs
          have hx0 : x = false := by
            cases x with
            | false => rfl
            | true => exact absurd (by rw [hx rfl]; rfl) hs
          have hc : rest.isPrefixOf closing = false := by
            cases hp : rest.isPrefixOf closing with
            | false => rfl
            | true =>
              obtain ⟨u, e⟩ := pre_iff.1 hp
              exfalso
              match rest, e with
              | [], _ => exact hs rfl
              | [a], e =>
                simp only [closing, List.cons_append, List.cons.injEq] at e
                obtain ⟨rfl, _⟩ := e
                exact hs rfl
              | [a, b], e =>
                simp only [closing, List.cons_append, List.cons.injEq] at e
                obtain ⟨rfl, rfl, _⟩ := e
                exact hs rfl
              | a :: b :: c :: s, e =>
                simp only [closing, List.cons_append, List.cons.injEq] at e
                obtain ⟨rfl, rfl, rfl, _⟩ := e
                exact hC (by kernel_rfl)
          rw [hs', hc, hx0, hA']
          simp

theorem dead_of {st : Nat} (h : st ∈ codes) (r : List UInt8) (k : Nat) (c : Bool) (hno : k ≤ most → ¬ ((dec k ++ ending c).isPrefixOf r = true ∨ r.isPrefixOf (dec k ++ ending c) = true)) : Dead (line st ++ r) (st, k, c) := by
  by_cases hk : k > most
  · exact .inl hk
  · have hk : k ≤ most := by omega
    have hn := hno hk
    have hl := line_len st h
    have he := ending_len c
    have hd := dec_len7 hk
    have hh : (head st k c).length ≤ 200 := by rw [head_app, List.length_append, List.length_append]; omega
    right
    simp only
    rw [pre_take _ _ _ hh, head_app, app_pre, app_pre]
    rw [not_or] at hn
    exact ⟨Bool.eq_false_iff.2 hn.1, Bool.eq_false_iff.2 hn.2⟩
theorem tries_mem {l : List Nat} {st : Nat} {t : Nat × Nat × Bool} (h : t ∈ tries l st) : ∃ k c, t = (st, k, c) := by
  simp only [tries, pairs, List.mem_flatMap, List.mem_cons, List.not_mem_nil, or_false] at h
  obtain ⟨k, _, h⟩ := h
  rcases h with rfl | rfl
  · exact ⟨_, _, rfl⟩
  · exact ⟨_, _, rfl⟩

theorem tail_eq {st : Nat} (h : st ∈ codes) (r : List UInt8) : scan (line st ++ r) (tries [val (dgs 7 r), 10 * val (dgs 7 r)] st) false = tailP st r := by
  have nodig : isDig 13 = false := by decide
  have dead : (∀ k c, k ≤ most → ¬ ((dec k ++ ending c).isPrefixOf r = true ∨ r.isPrefixOf (dec k ++ ending c) = true)) → scan (line st ++ r) (tries [val (dgs 7 r), 10 * val (dgs 7 r)] st) false = .form := by
    intro hno
    have := scan_dead (line st ++ r) (tries [val (dgs 7 r), 10 * val (dgs 7 r)] st) [] false (fun t ht => by
      obtain ⟨k, c, rfl⟩ := tries_mem ht
      exact dead_of h r k c (hno k c))
    rw [List.append_nil] at this
    rw [this]
    rfl
  unfold tailP
  by_cases hd0 : dgs 8 r = []
  · simp only [hd0, List.length_nil, List.drop_zero, if_true]
    by_cases hr : r = []
    · rw [if_pos hr]
      subst hr
      show scan (line st ++ []) ((st, 0, false) :: (st, 0, true) :: (st, 0, false) :: (st, 0, true) :: []) false = .more
      have h0 : (0 : Nat) ≤ most := by decide
      have e : ∀ c, (dec 0 ++ ending c).isPrefixOf ([] : List UInt8) = false := by decide +kernel
      rw [scan_one h [] 0 false _ _ h0, scan_one h [] 0 true _ _ h0, scan_one h [] 0 false _ _ h0, scan_one h [] 0 true _ _ h0, e, e]
      rfl
    · rw [if_neg hr]
      refine dead fun k c hk hc => ?_
      obtain ⟨e, he⟩ := ending_cons c
      rcases compat_told hk he nodig hc with q | ⟨q, _⟩
      · exact hr q
      · exact q hd0
  · simp only [if_neg hd0]
    by_cases hcan : dec (val (dgs 8 r)) ≠ dgs 8 r ∨ val (dgs 8 r) > most
    · rw [if_pos hcan]
      refine dead fun k c hk hc => ?_
      obtain ⟨e, he⟩ := ending_cons c
      rcases compat_told hk he nodig hc with q | ⟨_, q1, q2⟩
      · rw [q] at hd0
        exact hd0 rfl
      · rcases hcan with hcan | hcan
        · exact hcan q1
        · omega
    · rw [if_neg hcan]
      rw [not_or, Decidable.not_not] at hcan
      obtain ⟨q1, q2⟩ := hcan
      obtain ⟨rest, hr, hsp⟩ := dgs_split 8 r
      have hdig := dgs_all 8 r
      obtain ⟨d, hd⟩ : ∃ d, d = dgs 8 r := ⟨_, rfl⟩
      rw [← hd] at q1 q2 hr hsp hdig hd0 ⊢
      obtain ⟨n, hn⟩ : ∃ n, n = val d := ⟨_, rfl⟩
      rw [← hn] at q1 q2 ⊢
      have hk : n ≤ most := by omega
      have hl7 := dec_len7 hk
      rw [q1] at hl7
      have hrest : rest = [] ∨ ∃ c t, rest = c :: t ∧ isDig c = false := by
        rcases hsp with q | q
        · omega
        · exact q
      have e7 : dgs 7 r = d := by
        rw [hr]
        exact dgs_app d rest 7 hdig hl7 hrest
      have ed : r.drop d.length = rest := by rw [hr, List.drop_left']; rfl
      rw [e7, ← hn, ed]
      have m1 : ∀ c, (dec n ++ ending c).isPrefixOf r = (ending c).isPrefixOf rest := fun c => by rw [q1, hr, app_pre]
      have p1 : ∀ c, r.isPrefixOf (dec n ++ ending c) = rest.isPrefixOf (ending c) := fun c => by rw [q1, hr, app_pre]
      have l1 : ∀ c, r.length < (dec n ++ ending c).length + n ↔ rest.length < (ending c).length + n := fun c => by rw [q1, hr, List.length_append, List.length_append]; omega
      show scan (line st ++ r) ((st, n, false) :: (st, n, true) :: (st, 10 * n, false) :: (st, 10 * n, true) :: []) false = _
      rw [scan_one h r n false _ _ hk, scan_one h r n true _ _ hk]
      simp only [m1, p1, l1, Bool.false_or]
      -- what ten times the number adds
      obtain ⟨x, hx, hten⟩ : ∃ x : Bool, (x = true → rest = []) ∧ (¬ staying.isPrefixOf rest = true → ¬ closing.isPrefixOf rest = true → ∀ may, scan (line st ++ r) [(st, 10 * n, false), (st, 10 * n, true)] (may || rest.isPrefixOf staying || rest.isPrefixOf closing) = if (may || rest.isPrefixOf staying || rest.isPrefixOf closing) || x then .more else .form) := by
        by_cases hbig : 10 * n > most
        · refine ⟨false, by simp, fun _ _ may => ?_⟩
          rw [scan_big _ _ _ _ _ _ hbig, scan_big _ _ _ _ _ _ hbig, scan, Bool.or_false]
        · have hk10 : 10 * n ≤ most := by omega
          by_cases h0 : n = 0
          · refine ⟨false, by simp, fun hA hB may => ?_⟩
            have e10 : 10 * n = n := by omega
            rw [e10, scan_one h r n false _ _ hk, scan_one h r n true _ _ hk]
            simp only [m1, p1]
            have hA' : (ending false).isPrefixOf rest = false := Bool.eq_false_iff.2 hA
            have hB' : (ending true).isPrefixOf rest = false := Bool.eq_false_iff.2 hB
            rw [hA', hB', scan]
            show (if (may || rest.isPrefixOf staying || rest.isPrefixOf closing || rest.isPrefixOf staying || rest.isPrefixOf closing) = true then _ else _) = _
            cases may <;> cases rest.isPrefixOf staying <;> cases rest.isPrefixOf closing <;> rfl
          · have e10 := dec_ten hk h0
            have m10 : ∀ c, (dec (10 * n) ++ ending c).isPrefixOf r = false := by
              intro c
              rw [e10, q1, hr, List.append_assoc, app_pre]
              rcases hrest with rfl | ⟨y, t, rfl, hy⟩
              · rfl
              · have : ¬ (48 : UInt8) = y := by rintro rfl; exact absurd hy (by decide)
                simp [List.isPrefixOf, this]
            have p10 : ∀ c, r.isPrefixOf (dec (10 * n) ++ ending c) = rest.isEmpty := by
              intro c
              rw [e10, q1, hr, List.append_assoc, app_pre]
              rcases hrest with rfl | ⟨y, t, rfl, hy⟩
              · rfl
              · have : ¬ y = (48 : UInt8) := by rintro rfl; exact absurd hy (by decide)
                simp [List.isPrefixOf, this]
            refine ⟨rest.isEmpty, by simp, fun hA hB may => ?_⟩
            rw [scan_one h r (10 * n) false _ _ hk10, scan_one h r (10 * n) true _ _ hk10]
            simp only [m10, p10]
            rw [scan]
            simp only [Bool.false_eq_true, if_false]
            cases may <;> cases rest.isPrefixOf staying <;> cases rest.isPrefixOf closing <;> cases rest.isEmpty <;> rfl
      have hf : ∀ c, (ending c).isPrefixOf rest = true → (if rest.length < (ending c).length + n then Res.more else .ok st n c) = if rest.length - (ending c).length < n then Res.more else .ok st n c := by
        intro c hc
        obtain ⟨u, e⟩ := pre_iff.1 hc
        have el := congrArg List.length e
        rw [List.length_append] at el
        have : rest.length < (ending c).length + n ↔ rest.length - (ending c).length < n := by omega
        simp only [this]
      rw [← ends rest x hx (fun c => if rest.length - (ending c).length < n then Res.more else .ok st n c)]
      by_cases hA : staying.isPrefixOf rest = true
      · rw [if_pos hA, if_pos (show (ending false).isPrefixOf rest = true from hA)]
        exact hf false hA
      · rw [if_neg hA, if_neg (show ¬ (ending false).isPrefixOf rest = true from hA)]
        by_cases hB : closing.isPrefixOf rest = true
        · rw [if_pos hB, if_pos (show (ending true).isPrefixOf rest = true from hB)]
          exact hf true hB
        · rw [if_neg hB, if_neg (show ¬ (ending true).isPrefixOf rest = true from hB)]
          have := hten hA hB false
          rw [Bool.false_or] at this
          exact this

/-- Both readings are one. -/
theorem take_eq (b : List UInt8) : takeP b = takeR b := by
  unfold takeP
  cases hf : codes.find? (fun st => (line st).isPrefixOf b) with
  | some st =>
    have hm := List.mem_of_find?_eq_some hf
    have hp := List.find?_some hf
    obtain ⟨r, rfl⟩ := pre_iff.1 hp
    rw [takeR_line hm r, tail_eq hm r]
    show tailP st ((line st ++ r).drop (line st).length) = _
    rw [List.drop_left']
    rfl
  | none =>
    have hno : ∀ s ∈ codes, (line s).isPrefixOf b = false := by
      intro s hs
      exact Bool.eq_false_iff.2 (List.find?_eq_none.1 hf s hs)
    have hscan := scan_no b (codes.flatMap (tries (nums (b.take 200)))) false (fun t ht => by
      obtain ⟨s, hs, ht⟩ := List.mem_flatMap.1 ht
      obtain ⟨k, c, rfl⟩ := tries_mem ht
      cases hp : (head s k c).isPrefixOf (b.take 200) with
      | false => rfl
      | true =>
        exfalso
        obtain ⟨u, e⟩ := pre_iff.1 hp
        have e2 : b = line s ++ ((dec k ++ ending c) ++ u ++ b.drop 200) := by
          rw [← List.append_assoc, ← List.append_assoc, ← head_app, ← e, List.take_append_drop]
        have := hno s hs
        rw [e2] at this
        exact absurd (pre_iff.2 ⟨_, rfl⟩) (by rw [this]; simp))
    show (if codes.any (fun st => b.isPrefixOf (line st)) = true then Res.more else .form) = takeR b
    unfold takeR
    rw [hscan, Bool.false_or]
    have key : (codes.any fun st => b.isPrefixOf (line st)) = (codes.flatMap (tries (nums (b.take 200)))).any (fun t => decide (t.2.1 ≤ most) && b.isPrefixOf (head t.1 t.2.1 t.2.2)) := by
      rw [Bool.eq_iff_iff, List.any_eq_true, List.any_eq_true]
      constructor
      · rintro ⟨s, hs, hp⟩
        obtain ⟨u, e⟩ := pre_iff.1 hp
        have hne : b.length < (line s).length := by
          rcases Nat.lt_or_ge b.length (line s).length with q | q
          · exact q
          · have el := congrArg List.length e
            rw [List.length_append] at el
            obtain rfl : u = [] := List.eq_nil_of_length_eq_zero (by omega)
            rw [List.append_nil] at e
            have := hno s hs
            rw [e] at this
            exact absurd (show b.isPrefixOf b = true from pre_iff.2 ⟨[], (List.append_nil b).symm⟩) (by rw [this]; simp)
        have eb : b = (line s).take b.length := by rw [e, List.take_left']; rfl
        have hn : nums (b.take 200) = [0] := by
          rw [eb]
          exact nums_cut s hs b.length hne
        refine ⟨(s, 0, false), List.mem_flatMap.2 ⟨s, hs, ?_⟩, ?_⟩
        · rw [hn]
          simp [tries, pairs]
        · simp only [Bool.and_eq_true, decide_eq_true_eq]
          refine ⟨by decide, pre_iff.2 ⟨u ++ (dec 0 ++ ending false), ?_⟩⟩
          rw [head_app, e, List.append_assoc]
      · rintro ⟨t, ht, hp⟩
        obtain ⟨s, hs, ht⟩ := List.mem_flatMap.1 ht
        obtain ⟨k, c, rfl⟩ := tries_mem ht
        simp only [Bool.and_eq_true, decide_eq_true_eq] at hp
        refine ⟨s, hs, ?_⟩
        obtain ⟨u, e⟩ := pre_iff.1 hp.2
        rw [head_app] at e
        rcases List.append_eq_append_iff.1 e with ⟨v, e1, e2⟩ | ⟨v, e1, e2⟩
        · exfalso
          have := hno s hs
          rw [e1] at this
          exact absurd (pre_iff.2 ⟨_, rfl⟩) (by rw [this]; simp)
        · exact pre_iff.2 ⟨v, e1⟩
    rw [← key]
    cases codes.any fun st => b.isPrefixOf (line st) <;> rfl
end Go.Proofs.Re
