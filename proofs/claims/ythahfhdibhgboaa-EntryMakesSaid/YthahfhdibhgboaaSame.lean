/- The law WireSame: what is taken as a vector and laid down again is the bytes that went. -/
import Derived.Test.YthahfhdibhgboaaRead
set_option linter.unusedVariables false
set_option linter.unusedSimpArgs false
set_option linter.unusedSectionVars false
namespace Go.Det
open Go.Proofs

theorem Rd.ext {h h' : H} {b : Nat} {v : AV} {l : List UInt8} (hR : Rd h b v l) (hx : Ext h h') : Rd h' b v l :=
  ⟨Nat.lt_of_lt_of_le hR.1 hx.1, by rw [hx.2 _ hR.1]; exact hR.2.1, hR.2.2.1.ext hx, hR.2.2.2⟩

theorem Bs.extB {h h' : H} {b : Nat} {v : AV} {l : List UInt8} (hb : Bs h v l) (hx : ExtB b h h') (hne : ∀ a n c, v = .sl a n c → a.b ≠ b) : Bs h' v l := by
  rcases hb with ⟨rfl, rfl⟩ | ⟨a, c, rfl, h1, h2⟩
  · exact .inl ⟨rfl, rfl⟩
  · exact .inr ⟨a, c, rfl, Nat.lt_of_lt_of_le h1 hx.1, by rw [ldn_same (hx.2 _ h1 (hne _ _ _ rfl))]; exact h2⟩

theorem Bs.lt {h : H} {v : AV} {l : List UInt8} (hb : Bs h v l) {a : AA} {n : Nat} {c : Cp} (e : v = .sl a n c) : a.b < h.n := by
  rcases hb with ⟨rfl, rfl⟩ | ⟨a', c', rfl, h1, h2⟩
  · simp at e
  · simp only [AV.sl.injEq] at e; rw [← e.1]; exact h1

/-- The digits of a number that bytes are. -/
theorem be_digits : ∀ (l : List UInt8), digits (be l) l.length l.length = l := by
  intro l
  have key : ∀ (r l : List UInt8) (k : Nat), k = l.length → ∀ m, m = (l ++ r).length → digits (be (l ++ r)) m k = l := by
    suffices hs : ∀ (N : Nat) (r l : List UInt8), l.length = N → ∀ m, m = (l ++ r).length → digits (be (l ++ r)) m N = l from fun r l k hk m hm => by rw [hk]; exact hs _ r l rfl m hm
    intro N
    induction N with
    | zero => intro r l hk m hm; rw [List.length_eq_zero_iff] at hk; subst hk; rfl
    | succ N ih =>
      intro r l0 hk m hm
      obtain ⟨l, c, rfl⟩ : ∃ l c, l0 = l ++ [c] := ⟨l0.dropLast, l0.getLast (by intro e; simp [e] at hk), (List.dropLast_concat_getLast _).symm⟩
      have hk : l.length = N := by simpa using hk
      subst hk
      rw [digits_succ, List.append_assoc, ih ([c] ++ r) l rfl m (by rw [hm]; simp)]
      congr 1
      congr 1
      unfold dig b8
      have hm2 : m - 1 - l.length = r.length := by rw [hm]; simp only [List.length_append, List.length_cons, List.length_nil]; omega
      rw [hm2]
      have hb : be (l ++ ([c] ++ r)) = (be l * 256 + c.toNat) * 256 ^ r.length + be r := by
        have fold : ∀ (r : List UInt8) (a : Nat), r.foldl (fun a c => a * 256 + c.toNat) a = a * 256 ^ r.length + be r := by
          intro r
          induction r with
          | nil => intro a; simp [be]
          | cons d r ih2 =>
            intro a
            rw [List.foldl_cons, ih2]
            have : be (d :: r) = d.toNat * 256 ^ r.length + be r := by
              show List.foldl _ (0 * 256 + d.toNat) r = _
              rw [ih2]; simp
            rw [this, Nat.add_mul, List.length_cons, Nat.pow_succ]
            have : a * 256 * 256 ^ r.length = a * (256 ^ r.length * 256) := by rw [Nat.mul_assoc, Nat.mul_comm 256]
            omega
        show List.foldl _ 0 (l ++ ([c] ++ r)) = _
        rw [List.foldl_append, List.foldl_append]
        show List.foldl _ (be l * 256 + c.toNat) r = _
        rw [fold]
      rw [hb]
      have hlt := be_lt r
      have e8 : (2 : Int) ^ (8 * r.length) = ((256 ^ r.length : Nat) : Int) := by
        rw [Int.natCast_pow, Int.pow_mul]; rfl
      rw [e8, Int.fdiv_eq_ediv_of_nonneg _ (Int.natCast_nonneg _), ← Int.natCast_ediv]
      have hpos : 0 < 256 ^ r.length := Nat.pos_of_ne_zero (by simp)
      rw [Nat.add_comm, Nat.add_mul_div_right _ _ hpos, Nat.div_eq_of_lt hlt]
      have hc := c.toNat_lt
      have : ((((0 + (be l * 256 + c.toNat) : Nat) : Int) % 256).toNat) = c.toNat := by omega
      rw [this]
      simp
  have := key [] l l.length rfl l.length (by simp)
  rwa [List.append_nil] at this

theorem size_fact (n : Int) : ∃ s : Nat, 1 ≤ s ∧ s ≤ 3 ∧ AV.int .i64 (IntKind.i64.wrap (1 + IntKind.i64.wrap ((IntKind.u64.wrap n).tmod 3))) = .int .i64 s := by
  have h0 : 0 ≤ IntKind.u64.wrap n := by
    have : IntKind.u64.wrap n = n % 18446744073709551616 := by simp [IntKind.wrap, IntKind.bits, IntKind.signed]
    rw [this]; omega
  obtain ⟨m, hm⟩ : ∃ m : Nat, IntKind.u64.wrap n = m := ⟨(IntKind.u64.wrap n).toNat, by omega⟩
  rw [hm]
  have e : (m : Int).tmod 3 = ((m % 3 : Nat) : Int) := by rw [Int.natCast_emod]; exact Int.tmod_eq_emod_of_nonneg (by omega)
  rw [e, i64_fit ((m % 3 : Nat) : Int) (by omega), i64_fit (1 + ((m % 3 : Nat) : Int)) (by omega)]
  exact ⟨1 + m % 3, by omega, by omega, by congr 1⟩

theorem awake24_run (h : H) : Runs TF 24 [] h (.bool true) h := Runs.known (by kernel_rfl) h

theorem same_run {h : H} {x : AV} {l : List UInt8} (hx : Bs h x l) (hc : Cok x) (hl : l.length + 8 ≤ maxRow) (size : Int) : ∃ r h', Runs TF 6 [x, .int .i64 size] h r h' ∧ r = .bool true := by
  obtain ⟨s, hs1, hs3, hsz⟩ := size_fact size
  obtain ⟨p, h1, c1, b, u, rfl, hb, hR, hE, hO, _⟩ := new_run hx (by omega)
  have hm64 : maxRow < 2 ^ 62 := by decide
  refine Runs.ofP f6 rfl ?_
  refine Wp.seq (Wp.region (Wo.all (by kernel_rfl) ?_))
  refine Wp.seq (Wp.region (Wo.pre 5 (by kernel_rfl) (Wo.val _ h (by kernel_rfl) (show _ = some (Ans.val (AV.int .i64 (IntKind.i64.wrap (1 + IntKind.i64.wrap ((IntKind.u64.wrap size).tmod 3)))) h) from by kernel_rfl) ?_)))
  rw [hsz]
  refine Wo.all (by kernel_rfl) ?_
  refine Wp.seq (Wp.region (Wo.pre 1 (by kernel_rfl) (Wo.call (by kernel_rfl) (by kernel_rfl) c1 (Wo.all (by kernel_rfl) ?_))))
  have aw := awake24_run
  have hxe : Bs h1 x l := hx.ext hE
  have short : ∀ (h2 : H) (v2 : AV), Rd h2 b v2 l → Bs h2 x l → Runs TF 29 [.ptr ⟨b, 0, 0⟩, .int .i64 s] h1 (.tup [.nils, .int .i64 4]) h2 → False ∨ True := fun _ _ _ _ _ => .inr trivial
  by_cases hA : l.length < s ∨ l.length < s + be (l.take s)
  · -- cut off
    obtain ⟨h2, v2, hR2, hx2, d1⟩ : ∃ h2 v2, Rd h2 b v2 l ∧ Bs h2 x l ∧ Runs TF 29 [.ptr ⟨b, 0, 0⟩, .int .i64 s] h1 (.tup [.nils, .int .i64 4]) h2 := by
      by_cases hA1 : l.length < s
      · exact ⟨h1, u, hR, hxe, vec_short hR ⟨hs1, hs3⟩ hA1⟩
      · have hbl : be (l.take s) < 2 ^ 63 := by
          have := be_lt (l.take s)
          rw [List.length_take, Nat.min_eq_left (by omega)] at this
          have h2 : 256 ^ s ≤ 256 ^ 3 := Nat.pow_le_pow_right (by omega) hs3
          omega
        obtain ⟨h2, d1, d2, d3⟩ := vec_cut hR ⟨hs1, hs3⟩ rfl (by omega) (hA.resolve_left hA1) (by omega) hbl
        exact ⟨h2, u, d2, hxe.extB d3 (fun a n c e => by have := hx.lt e; omega), d1⟩
    have hleft := left_run hR2
    refine Wp.seq (Wp.region (Wo.pre 2 (by kernel_rfl) (Wo.call (by kernel_rfl) (by kernel_rfl) d1 (Wo.all (by kernel_rfl) ?_))))
    refine Wp.seq (Wp.seq (Wp.region (Wo.all (by kernel_rfl) ?_)))
    refine Wp.cond true (by kernel_rfl) ?_
    refine Wp.seq (Wp.region ?_)
    refine Wo.call (by kernel_rfl) (by kernel_rfl) (aw h2) ?_
    refine Wo.pre 6 (by kernel_rfl) ?_
    refine Wo.call (by kernel_rfl) (by kernel_rfl) hleft ?_
    refine Wo.pre 1 (by kernel_rfl) ?_
    refine Wo.val _ h2 (by kernel_rfl) (hx2.len (by kernel_rfl)) ?_
    refine Wo.val _ h2 (by kernel_rfl) (iop_eqI (k := .i64) (a := l.length) (b := l.length) (by kernel_rfl) (by kernel_rfl) rfl) ?_
    refine Wo.all (by kernel_rfl) (Wp.ret ?_)
    exact ⟨.inr rfl, _, by kernel_rfl, rfl⟩
  · -- whole
    obtain ⟨hA1, hA2⟩ := not_or.1 hA
    obtain ⟨n, hn⟩ : ∃ n, be (l.take s) = n := ⟨_, rfl⟩
    rw [hn] at hA2
    obtain ⟨r, h2, d1, y, v2, rfl, hR2, hO2, hE2, _⟩ := vec_run hR ⟨hs1, hs3⟩ hn (by omega) (by omega)
    have hx2 : Bs h2 x l := hxe.extB hE2 (fun a n c e => by have := hx.lt e; omega)
    have hyl : ((l.drop s).take n).length = n := by rw [List.length_take, List.length_drop]; omega
    have hts : (l.take s).length = s := by rw [List.length_take]; omega
    obtain ⟨r, h3, e1, z, rfl, hE3, hO3⟩ := wvec_run (h := h2) (x := .nils) (lx := []) (.inl ⟨rfl, rfl⟩) hO2.bs ⟨hs1, hs3⟩ (by simp; unfold maxRow; omega) (by rw [hyl]; omega)
    have hbl := be_lt (l.take s)
    rw [hn, hts] at hbl
    have h0 : numE ((l.drop s).take n).length s = 0 := by
      rw [hyl]
      have e1 : (1 ≤ (s : Int) ∧ (s : Int) ≤ 4 ∨ (s : Int) = 8) := by omega
      have e2 : (s : Int).toNat = s := by omega
      have e3 : ¬ 2 ^ (8 * s) ≤ n := by
        rw [Nat.pow_mul]
        exact Nat.not_le.2 hbl
      simp only [numE, e1, e2, e3, not_true, if_false]
    have hfin : [] ++ digits ((l.drop s).take n).length s s ++ (l.drop s).take n = l.take (s + n) := by
      have := be_digits (l.take s)
      rw [hn, hts] at this
      rw [hyl, this, List.nil_append, List.take_add]
    rw [h0] at e1
    rw [if_pos h0, hfin] at hO3
    have hzl : (l.take (s + n)).length = s + n := by rw [List.length_take]; omega
    have hR3 := hR2.ext hE3
    have hleft := left_run hR3
    have hx3 : Bs h3 x l := hx2.ext hE3
    obtain ⟨q, t1, t2, t3⟩ := hx3.take hc (n := s + n) (by omega)
    have heq := equal_run hO3.bs t2
    rw [show (l.take (s + n) == l.take (s + n)) = true by simp] at heq
    have hdl : (l.drop (s + n)).length = l.length - (s + n) := by simp
    rw [hdl] at hleft
    have hzlen : ∀ (x : IX) (ρ : IX → AV), ρ x = z → iop (.len false x) ρ h3 = some (.val (.int .i64 (s + n : Nat)) h3) := fun x ρ hh => by rw [← hzl]; exact hO3.bs.len hh
    refine Wp.seq (Wp.region (Wo.pre 2 (by kernel_rfl) (Wo.call (by kernel_rfl) (by kernel_rfl) d1 (Wo.all (by kernel_rfl) ?_))))
    refine Wp.seq (Wp.seq (Wp.region (Wo.all (by kernel_rfl) ?_)))
    refine Wp.cond false (by kernel_rfl) ?_
    refine Wp.skip ?_
    refine Wp.seq (Wp.region (Wo.pre 2 (by kernel_rfl) (Wo.call (by kernel_rfl) (by kernel_rfl) e1 (Wo.all (by kernel_rfl) ?_))))
    refine Wp.seq (Wp.region ?_)
    refine Wo.call (by kernel_rfl) (by kernel_rfl) (aw h3) ?_
    refine Wo.pre 6 (by kernel_rfl) ?_
    refine Wo.val _ h3 (by kernel_rfl) (hzlen _ _ (by kernel_rfl)) ?_
    refine Wo.pre 1 (by kernel_rfl) ?_
    refine Wo.call (by kernel_rfl) (by kernel_rfl) hleft ?_
    refine Wo.pre 2 (by kernel_rfl) ?_
    refine Wo.val _ h3 (by kernel_rfl) (hx3.len (by kernel_rfl)) ?_
    refine Wo.val _ h3 (by kernel_rfl) (iop_eqI (k := .i64) (a := IntKind.i64.wrap (((s + n : Nat) : Int) + ((l.length - (s + n) : Nat) : Int))) (b := l.length) (by kernel_rfl) (by kernel_rfl) (by rw [i64_fit _ (by omega)]; omega)) ?_
    refine Wo.pre 5 (by kernel_rfl) ?_
    refine Wo.val _ h3 (by kernel_rfl) (hzlen _ _ (by kernel_rfl)) ?_
    refine Wo.val q h3 (by kernel_rfl) (t1 _ _ _ (by kernel_rfl) (by kernel_rfl)) ?_
    refine Wo.call (by kernel_rfl) (by kernel_rfl) heq ?_
    refine Wo.all (by kernel_rfl) (Wp.ret ?_)
    exact ⟨.inr rfl, _, by kernel_rfl, rfl⟩
end Go.Det
