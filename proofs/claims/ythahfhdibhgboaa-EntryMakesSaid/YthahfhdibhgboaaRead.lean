/- What the packet's reader does: it takes numbers and rows of bytes from ahead. -/
import Derived.Test.YthahfhdibhgboaaWire
import Derived.Test.YthahfhdibhgboaaDetWd
set_option linter.unusedVariables false
set_option linter.unusedSimpArgs false
namespace Go.Det
open Go.Proofs
attribute [local simp] skip_iff ret_iff exit_iff seq_iff block_iff thenQ_normal thenQ_ret thenQ_exit thenQ_goto blockQ_normal blockQ_ret blockQ_exit blockQ_goto condQ_bool cond_iff region_iff wo_nil ansQ_val ansQ_call wo_cons wo_guard wanted put setL getL ev iop binop binInt shInt asI retV resOf unop draw_iff wd_nil wd_quiet wd_act holds_nil holds_cons
attribute [local congr] ansQ_congr condQ_congr Wo_congr Wp_congr Wd_congr

/-- A reader: its block, the row that is left, and how it reads. -/
def Rd (h : H) (b : Nat) (v : AV) (l : List UInt8) : Prop := b < h.n ∧ h.get b = some (.cells 0 121 [v, .bool true] 0 false) ∧ Bs h v l ∧ ∀ a n c, v = .sl a n c → a.b ≠ b ∧ ((∃ k, c = .ex k ∧ n ≤ k) ∨ c = .op 1)

theorem Rd.ld {h : H} {b : Nat} {v : AV} {l : List UInt8} (hR : Rd h b v l) : h.ldg ⟨b, 0, 0⟩ none = some v ∧ h.ldg ⟨b, 0, 1⟩ none = some (.bool true) := by
  simp [H.ldg, H.ld, H.row, hR.2.1]

theorem Ow.blk {lo : Nat} {h : H} {v : AV} {l : List UInt8} (ho : Ow lo h v l) {a : AA} {n : Nat} {c : Cp} (e : v = .sl a n c) : lo ≤ a.b ∧ a.b < h.n := by
  subst e
  rcases ho with ⟨e1, _⟩ | ⟨b', g', q1, q2, _, e1 | e1⟩
  · simp at e1
  · simp only [AV.sl.injEq] at e1; rw [e1.1]; exact ⟨q1, q2⟩
  · simp only [AV.sl.injEq] at e1; rw [e1.1]; exact ⟨q1, q2⟩

theorem new_run {v : AV} {l : List UInt8} {h : H} (hb : Bs h v l) (hl : l.length ≤ maxRow) : ∃ p h', Runs TF 25 [v] h p h' ∧ ∃ b u, p = .ptr ⟨b, 0, 0⟩ ∧ h.n ≤ b ∧ Rd h' b u l ∧ Ext h h' ∧ Ow h.n h' u l ∧ ∀ a n c, u = .sl a n c → h.n ≤ a.b ∧ a.b < b := by
  obtain ⟨x, h1, c1, c2, c3⟩ := clone_run hb hl
  have hx : x.cells = [x] ∧ x.one = true := by rcases c3 with ⟨rfl, _⟩ | ⟨_, _, _, _, _, rfl | rfl⟩ <;> exact ⟨rfl, rfl⟩
  obtain ⟨B, hB⟩ : ∃ B, B = Blk.cells 0 121 [x, .bool true] 0 false := ⟨_, rfl⟩
  have hO := c3.ext (Ext.new h1 B)
  refine ⟨.ptr ⟨h1.n, 0, 0⟩, h1.new B, Runs.of' f25 rfl ?_, h1.n, x, rfl, c2.1, ⟨by simp, by rw [h1.get_new, hB], hO.bs, ?_⟩, c2.trans (Ext.new h1 B), hO, fun a n c e => c3.blk e⟩
  · simp [List.replicate]
    refine ⟨_, _, c1, ?_⟩
    have o1 : (AV.bool true).one = true := rfl
    have o2 : (AV.bool true).cells = [AV.bool true] := rfl
    have o3 : ∀ cs, (AV.agg cs).cells = cs := fun _ => rfl
    simp [fillL, hx.1, hx.2, o2, o3, putAt, o1, ← hB]
  · rintro a n c rfl
    rcases c3 with ⟨e, _⟩ | ⟨b, g, g1, g2, g3, e | e⟩
    · simp at e
    · simp only [AV.sl.injEq] at e
      obtain ⟨rfl, rfl, rfl⟩ := e
      exact ⟨by simp; omega, .inr rfl⟩
    · simp only [AV.sl.injEq] at e
      obtain ⟨rfl, rfl, rfl⟩ := e
      exact ⟨by simp; omega, .inl ⟨_, rfl, Nat.le_refl _⟩⟩

def readyE (l : List UInt8) (n : Int) : Int := if n < 0 then 1 else if (l.length : Int) < n then 4 else 0

theorem ready_run {h : H} {b : Nat} {v : AV} {l : List UInt8} (hR : Rd h b v l) (n : Int) : Runs TF 75 [.ptr ⟨b, 0, 0⟩, .int .i64 n] h (.int .i64 (readyE l n)) h := by
  obtain ⟨l0, l1⟩ := hR.ld
  have hb := hR.2.2.1
  refine Runs.of' f75 rfl ?_
  refine Wp.seq (Wp.region (Wo.all (by kernel_rfl) ?_))
  refine Wp.seq (Wp.block (Wp.seq (Wp.region (Wo.pre 6 (by kernel_rfl) ?_))))
  refine Wo.val (.bool true) h (by kernel_rfl) (iop_ld (a := ⟨b, 0, 1⟩) (by kernel_rfl) l1) (Wo.all (by kernel_rfl) ?_)
  refine Wp.cond false (by kernel_rfl) ?_
  refine Wp.seq (Wp.region (Wo.all (by kernel_rfl) ?_))
  refine Wp.cond (decide (n < 0)) (by kernel_rfl) ?_
  by_cases h1 : n < 0
  · rw [if_pos (by simpa using h1)]
    refine Wp.seq (Wp.region (Wo.all (by kernel_rfl) (Wp.ret ?_)))
    exact ⟨.inr rfl, rfl, by rw [readyE, if_pos h1]; kernel_rfl⟩
  · rw [if_neg (by simpa using h1)]
    refine Wp.seq (Wp.region (Wo.pre 4 (by kernel_rfl) ?_))
    refine Wo.val v h (by kernel_rfl) (iop_ld (a := ⟨b, 0, 0⟩) (by kernel_rfl) l0) ?_
    refine Wo.val (.int .i64 l.length) h (by kernel_rfl) (hb.len (by kernel_rfl)) (Wo.all (by kernel_rfl) ?_)
    refine Wp.cond (decide ((l.length : Int) < n)) (by kernel_rfl) ?_
    by_cases h2 : (l.length : Int) < n
    · rw [if_pos (by simpa using h2)]
      refine Wp.seq (Wp.region (Wo.all (by kernel_rfl) (Wp.ret ?_)))
      exact ⟨.inr rfl, rfl, by rw [readyE, if_neg h1, if_pos h2]; kernel_rfl⟩
    · rw [if_neg (by simpa using h2)]
      refine Wp.skip ?_
      refine Wp.seq (Wp.region (Wo.all (by kernel_rfl) (Wp.ret ?_)))
      exact ⟨.inr rfl, rfl, by rw [readyE, if_neg h1, if_neg h2]; kernel_rfl⟩

theorem left_run {h : H} {b : Nat} {v : AV} {l : List UInt8} (hR : Rd h b v l) : Runs TF 33 [.ptr ⟨b, 0, 0⟩] h (.int .i64 l.length) h := by
  obtain ⟨l0, l1⟩ := hR.ld
  refine Runs.of' f33 rfl ?_
  rcases hR.2.2.1 with ⟨rfl, rfl⟩ | ⟨a, c, rfl, _, _⟩ <;> simp [List.replicate, eqv, l0]

/-- Only the reader's own block is written. -/
def ExtB (b : Nat) (h h' : H) : Prop := h.n ≤ h'.n ∧ ∀ k, k < h.n → k ≠ b → h'.get k = h.get k

theorem ExtB.trans {b : Nat} {h h' h'' : H} (x : ExtB b h h') (y : ExtB b h' h'') : ExtB b h h'' := ⟨Nat.le_trans x.1 y.1, fun k hk hb => (y.2 k (Nat.lt_of_lt_of_le hk x.1) hb).trans (x.2 k hk hb)⟩
theorem Ext.b {h h' : H} (x : Ext h h') (b : Nat) : ExtB b h h' := ⟨x.1, fun k hk _ => x.2 k hk⟩

theorem take_fail {h : H} {b : Nat} {v : AV} {l : List UInt8} (hR : Rd h b v l) {n : Int} (hn : readyE l n ≠ 0) : Runs TF 31 [.ptr ⟨b, 0, 0⟩, .int .i64 n] h (.tup [.nils, .int .i64 (readyE l n)]) h := by
  refine Runs.of' f31 rfl ?_
  simp [List.replicate]
  refine ⟨_, _, ready_run hR n, ?_⟩
  simp [hn]

/-- A row in the same block. -/
def SB (v v' : AV) : Prop := ∀ a n c, v' = .sl a n c → ∃ a0 n0 c0, v = .sl a0 n0 c0 ∧ a0.b = a.b
theorem SB.refl (v : AV) : SB v v := fun a n c e => ⟨a, n, c, e, rfl⟩
theorem SB.trans {u v w : AV} (x : SB u v) (y : SB v w) : SB u w := by
  intro a n c e
  obtain ⟨a1, n1, c1, e1, q1⟩ := y a n c e
  obtain ⟨a2, n2, c2, e2, q2⟩ := x a1 n1 c1 e1
  exact ⟨a2, n2, c2, e2, q2.trans q1⟩

theorem take_run {h : H} {b : Nat} {v : AV} {l : List UInt8} (hR : Rd h b v l) {n : Nat} (hn : n ≤ l.length) (hl : l.length ≤ maxRow) :
    ∃ r h', Runs TF 31 [.ptr ⟨b, 0, 0⟩, .int .i64 n] h r h' ∧ ∃ x v', r = .tup [x, .int .i64 0] ∧ Rd h' b v' (l.drop n) ∧ Ow h.n h' x (l.take n) ∧ ExtB b h h' ∧ SB v v' := by
  obtain ⟨l0, l1⟩ := hR.ld
  refine Runs.ofP f31 rfl ?_
  have e0 : readyE l n = 0 := by simp [readyE]; omega
  have hready := ready_run hR (n : Int)
  rw [e0] at hready
  have hm : n ≤ maxRow := by omega
  have hm2 : (n : Int) ≤ 9223372036854775807 := by unfold maxRow at hm; omega
  have hm3 : (n : Int) ≤ (maxRow : Int) := by omega
  obtain ⟨Z, hZ⟩ : ∃ Z, Z = Blk.cells 0 5 (List.replicate n (.int .u8 0)) 0 false := ⟨_, rfl⟩
  obtain ⟨Y, hY⟩ : ∃ Y, Y = Blk.cells 0 5 (bytesAV (l.take n)) 0 false := ⟨_, rfl⟩
  have hb := hR.1
  have gK : ∀ k, k ≠ h.n → ((h.new Z).set h.n Y).get k = h.get k := fun k hk => by rw [H.get_set_ne _ _ _ _ hk, h.get_new_ne k Z hk]
  have gb : ((h.new Z).set h.n Y).get b = some (.cells 0 121 [v, .bool true] 0 false) := by rw [gK b (by omega)]; exact hR.2.1
  have L1 : (h.new Z).ldg ⟨b, 0, 0⟩ none = some v := by simp [H.ldg, H.ld, H.row, h.get_new_ne b Z (by omega), hR.2.1]
  have L2 : ((h.new Z).set h.n Y).ldg ⟨b, 0, 0⟩ none = some v := by simp [H.ldg, H.ld, H.row, gb]
  have S1 : (h.new Z).st ⟨h.n, 0, 0⟩ (bytesAV (l.take n)) = some ((h.new Z).set h.n Y) := by
    unfold H.st
    simp only [h.get_new, hZ]
    have hone := bytes_one (l.take n)
    have hlen : (bytesAV (l.take n)).length = n := by rw [bytes_len, List.length_take]; omega
    rw [if_pos (by rw [hone, hlen]; simp)]
    have e : putAt (List.replicate n (AV.int .u8 0)) 0 (bytesAV (l.take n)) = bytesAV (l.take n) := by
      have : putAt (List.replicate n (AV.int .u8 0)) 0 (bytesAV (l.take n)) = bytesAV (l.take n) ++ (List.replicate n (AV.int .u8 0)).drop (bytesAV (l.take n)).length := by
        cases n <;> rfl
      rw [this, hlen]
      simp
    rw [e, hY]
  have C1 : ∀ {x y : IX} {ρ : IX → AV}, ρ x = .sl ⟨h.n, 0, 0⟩ n (.ex n) → ρ y = v → iop (.copy 1 x y) ρ (h.new Z) = some (.val (.int .i64 n) ((h.new Z).set h.n Y)) := by
    intro x y ρ hx hy
    rcases hR.2.2.1 with ⟨rfl, rfl⟩ | ⟨a, c, rfl, ha, hld⟩
    · have : n = 0 := by simpa using hn
      subst this
      simp only [iop, hx, hy, srcLen, srcFirst]
      rw [show bytesAV (([] : List UInt8).take 0) = ([] : List AV) from rfl] at S1
      rw [S1]
      rfl
    · have hmin : Nat.min l.length n = n := Nat.min_eq_right hn
      have hl2 : (h.new Z).ldn a (n * 1) = some (bytesAV (l.take n)) := by
        rw [ldn_same (h.get_new_ne _ Z (by omega)), Nat.mul_one, ldn_take hld hn, bytes_take]
      simp only [iop, hx, hy, srcLen, srcFirst, hmin, hl2, S1, Option.map_some]
  refine Wp.seq (Wp.region (Wo.all (by kernel_rfl) ?_))
  refine Wp.seq (Wp.seq (Wp.region (Wo.pre 2 (by kernel_rfl) (Wo.call (by kernel_rfl) (by kernel_rfl) hready (Wo.all (by kernel_rfl) ?_)))))
  refine Wp.seq (Wp.region (Wo.all (by kernel_rfl) ?_))
  refine Wp.cond false (by kernel_rfl) ?_
  refine Wp.skip ?_
  refine Wp.seq (Wp.region (Wo.pre 1 (by kernel_rfl) (Wo.val (.sl ⟨h.n, 0, 0⟩ n (.ex n)) (h.new Z) (by kernel_rfl) (by rw [hZ]; exact iop_mkS (k := .i64) (by kernel_rfl) hm) (Wo.all (by kernel_rfl) ?_))))
  refine Wp.seq (Wp.region (Wo.pre 4 (by kernel_rfl) (Wo.val v (h.new Z) (by kernel_rfl) (iop_ld (a := ⟨b, 0, 0⟩) (by kernel_rfl) L1) (Wo.val (.int .i64 n) ((h.new Z).set h.n Y) (by kernel_rfl) (C1 (by kernel_rfl) (by kernel_rfl)) (Wo.nil ?_)))))
  refine Wp.seq (Wp.region (Wo.pre 4 (by kernel_rfl) (Wo.val v ((h.new Z).set h.n Y) (by kernel_rfl) (iop_ld (a := ⟨b, 0, 0⟩) (by kernel_rfl) L2) ?_)))
  have hBK : Bs ((h.new Z).set h.n Y) v l := by
    rcases hR.2.2.1 with ⟨rfl, rfl⟩ | ⟨a, c, rfl, ha, hld⟩
    · exact .inl ⟨rfl, rfl⟩
    · exact .inr ⟨a, c, rfl, by simp; omega, by rw [ldn_same (gK _ (by omega))]; exact hld⟩
  obtain ⟨v', d1, d2, d3, d4, d5⟩ := hBK.drop (fun a m c e => (hR.2.2.2 a m c e).2) hn
  obtain ⟨X, hX⟩ : ∃ X, X = Blk.cells 0 121 [v', .bool true] 0 false := ⟨_, rfl⟩
  have S2 : ((h.new Z).set h.n Y).st ⟨b, 0, 0⟩ v'.cells = some (((h.new Z).set h.n Y).set b X) := by
    unfold H.st
    simp only [gb, d4]
    rw [if_pos (by simp [d5])]
    rw [hX]
    rfl
  refine Wo.pre 1 (by kernel_rfl) (Wo.val v' ((h.new Z).set h.n Y) (by kernel_rfl) (d1 _ _ _ (by kernel_rfl) (by kernel_rfl)) (Wo.pre 2 (by kernel_rfl) (Wo.val .undef (((h.new Z).set h.n Y).set b X) (by kernel_rfl) ?_ (Wo.nil ?_))))
  · have st_eq : ∀ (x y : IX) (ρ : IX → AV), ρ x = .ptr ⟨b, 0, 0⟩ → ρ y = v' → iop (.st 1 x y) ρ ((h.new Z).set h.n Y) = some (.val .undef (((h.new Z).set h.n Y).set b X)) := by
      intro x y ρ hx hy
      simp only [iop, hx, hy, S2]
      rw [if_pos (by rw [d4]; rfl)]
      rfl
    exact st_eq _ _ _ (by kernel_rfl) (by kernel_rfl)
  have hln : (l.take n).length = n := by rw [List.length_take]; omega
  have hne : h.n ≠ b := by omega
  refine Wp.seq (Wp.region (Wo.all (by kernel_rfl) (Wp.ret ⟨.inr rfl, .tup [.sl ⟨h.n, 0, 0⟩ n (.ex n), .int .i64 0], by kernel_rfl, ?_⟩)))
  refine ⟨.sl ⟨h.n, 0, 0⟩ n (.ex n), v', rfl, ⟨by show b < h.n + 1; omega, by show H.get _ b = _; rw [H.get_set, hX], ?_, ?_⟩, ?_, ?_, fun a m c e => (d3 a m c e).1⟩
  · rcases d2 with ⟨e1, e2⟩ | ⟨a, c, e1, e2, e3⟩
    · exact .inl ⟨e1, e2⟩
    · obtain ⟨⟨a0, m0, c0, q1, q2⟩, _⟩ := d3 _ _ _ e1
      have hab : a.b ≠ b := by rw [← q2]; exact (hR.2.2.2 _ _ _ q1).1
      exact .inr ⟨a, c, e1, e2, by rw [ldn_same (H.get_set_ne _ b _ X hab)]; exact e3⟩
  · intro a m c e
    obtain ⟨⟨a0, m0, c0, q1, q2⟩, q3⟩ := d3 _ _ _ e
    exact ⟨by rw [← q2]; exact (hR.2.2.2 _ _ _ q1).1, q3⟩
  · refine .inr ⟨h.n, 0, Nat.le_refl _, by show h.n < h.n + 1; omega, by show H.get _ h.n = _; rw [H.get_set_ne _ b _ X hne, H.get_set, hY], .inr (by rw [hln])⟩
  · exact ⟨by show h.n ≤ h.n + 1; omega, fun k hk hkb => by show H.get _ k = _; rw [H.get_set_ne _ b _ X hkb, gK k (by omega)]⟩

/-- A number's bytes, the first one foremost. -/
def be (l : List UInt8) : Nat := l.foldl (fun a c => a * 256 + c.toNat) 0
theorem be_snoc (l : List UInt8) (c : UInt8) : be (l ++ [c]) = be l * 256 + c.toNat := by simp [be]
theorem be_from : ∀ (l : List UInt8) (a : Nat), l.foldl (fun a c => a * 256 + c.toNat) a < (a + 1) * 256 ^ l.length
  | [], a => by simp
  | c :: l, a => by
    have h1 := be_from l (a * 256 + c.toNat)
    have h2 := c.toNat_lt
    have h3 : (a * 256 + c.toNat + 1) * 256 ^ l.length ≤ (a + 1) * 256 * 256 ^ l.length := Nat.mul_le_mul_right _ (by omega)
    simp only [List.foldl_cons, List.length_cons, Nat.pow_succ]
    have h4 : (a + 1) * (256 ^ l.length * 256) = (a + 1) * 256 * 256 ^ l.length := by rw [Nat.mul_comm (256 ^ l.length), Nat.mul_assoc]
    rw [h4]
    exact Nat.lt_of_lt_of_le h1 h3
theorem be_lt (l : List UInt8) : be l < 256 ^ l.length := by have := be_from l 0; simpa [be] using this

theorem or_add {A c : Nat} (hA : A * 256 < 2 ^ 64) (hc : c < 256) : IntKind.u64.wrap (((BitVec.ofInt IntKind.u64.bits ((A * 256 : Nat) : Int) ||| BitVec.ofInt IntKind.u64.bits (c : Int)).toNat : Nat) : Int) = ((A * 256 + c : Nat) : Int) := by
  have e : (BitVec.ofInt IntKind.u64.bits ((A * 256 : Nat) : Int) ||| BitVec.ofInt IntKind.u64.bits (c : Int)).toNat = A * 256 + c := by
    rw [BitVec.toNat_or, BitVec.ofInt_natCast, BitVec.ofInt_natCast, BitVec.toNat_ofNat, BitVec.toNat_ofNat]
    have h1 : A * 256 % 2 ^ IntKind.u64.bits = A * 256 := Nat.mod_eq_of_lt (by simpa [IntKind.bits] using hA)
    have h2 : c % 2 ^ IntKind.u64.bits = c := Nat.mod_eq_of_lt (by simp [IntKind.bits]; omega)
    rw [h1, h2]
    have := Nat.shiftLeft_add_eq_or_of_lt (i := 8) (b := c) (by omega) A
    rw [Nat.shiftLeft_eq] at this
    exact this.symm
  rw [e, u64_fit _ (by omega)]

/-- The loop of the reader's Num. -/
theorem rdnum_loop {l : List UInt8} {blk g : Nat} {cc : Cp} {size : Nat} (hs : size ≤ 8) (hl : l.length = size) {h : H} (hg : h.get blk = some (.cells g 5 (bytesAV l) 0 false)) :
    ∀ (k i : Nat), i + k = size → ∀ (ts : List AV), ts.length = 42 → getL ts 7 = some (.sl ⟨blk, g, 0⟩ size cc) → getL ts 9 = some (.int .u64 (be (l.take i) : Nat)) → getL ts 28 = some (.int .i64 size) → getL ts 29 = some (.int .i64 i) →
      ∀ (Q : Ex → St → Prop), (∀ ts', ts'.length = 42 → getL ts' 9 = some (.int .u64 (be l : Nat)) → Q (.exit 0) (ts', h)) → Wp TF (.loop l27_1) (ts, h) Q := by
  intro k
  induction k with
  | zero =>
    intro i hi ts t0 t7 t9 t28 t29 Q hQ
    obtain rfl : i = size := by omega
    refine Wp.loop ?_
    simp [l27_1, t0, t28, t29, getL_put, len_put]
    refine hQ _ (by simp [t0, len_put]) ?_
    simp [getL_put, t9]
    rw [← hl, List.take_length]
  | succ k ih =>
    intro i hi ts t0 t7 t9 t28 t29 Q hQ
    refine Wp.loop ?_
    have hlt : i < size := by omega
    have hget : l[i]? = some (l[i]'(by omega)) := by simp [hl, hlt]
    obtain ⟨c, hc⟩ : ∃ c, l[i]? = some c := ⟨_, hget⟩
    have hld : h.ldg ⟨blk, g, i⟩ none = some (.int .u8 c.toNat) := by simp [H.ldg, H.ld, H.row, hg, get_byte, hc]
    have ht : l.take (i + 1) = l.take i ++ [c] := by rw [List.take_add_one, hc]; rfl
    have hA : be (l.take i) < 256 ^ i := by have := be_lt (l.take i); rwa [List.length_take, Nat.min_eq_left (by omega)] at this
    have hA2 : be (l.take i) * 256 < 2 ^ 64 := by
      have : 256 ^ i ≤ 256 ^ 7 := Nat.pow_le_pow_right (by omega) (by omega)
      omega
    have w1 : IntKind.i64.wrap ((i : Int) + 1) = (i : Int) + 1 := i64_fit _ (by omega)
    obtain ⟨A, hAe⟩ : ∃ A, A = be (l.take i) := ⟨_, rfl⟩
    rw [← hAe] at t9 hA2
    have w2 : IntKind.u64.wrap ((A : Int) * 256) = (A : Int) * 256 := u64_fit _ (by omega)
    have hc8 := c.toNat_lt
    have w3 : IntKind.u64.wrap ((c.toNat : Nat) : Int) = ((c.toNat : Nat) : Int) := u64_fit _ (by omega)
    have w4 := or_add hA2 (c := c.toNat) (by omega)
    have w5 : IntKind.u64.wrap (((BitVec.ofInt 64 ((A : Int) * 256) ||| BitVec.ofNat 64 c.toNat).toNat : Nat) : Int) = ((be (l.take (i + 1)) : Nat) : Int) := by
      rw [← BitVec.ofInt_natCast, ht, be_snoc, ← hAe, ← w4, Int.natCast_mul]
      rfl
    simp only [l27_1]
    simp [t0, t7, t9, t28, t29, getL_put, len_put, hlt, hld, IntKind.bits]
    refine ih (i + 1) (by omega) _ (by simp [t0, len_put]) (by simp [t7, getL_put]) ?_ (by simp [t28, getL_put]) (by simp [t0, getL_put, len_put, w1]) Q hQ
    simp [t0, getL_put, len_put, w2, w3]
    exact w5

def rdE (l : List UInt8) (size : Int) : Int := if ¬ (1 ≤ size ∧ size ≤ 4 ∨ size = 8) then 1 else if (l.length : Int) < size then 4 else 0

/-- The reader's Num where it answers a number. -/
theorem rdnum_run {h : H} {b : Nat} {v : AV} {l : List UInt8} (hR : Rd h b v l) {size : Nat} (hs : 1 ≤ size ∧ size ≤ 4 ∨ size = 8) (hn : size ≤ l.length) (hl : l.length ≤ maxRow) :
    ∃ r h', Runs TF 27 [.ptr ⟨b, 0, 0⟩, .int .i64 size] h r h' ∧ ∃ v', r = .tup [.int .u64 (be (l.take size) : Nat), .int .i64 0] ∧ Rd h' b v' (l.drop size) ∧ ExtB b h h' ∧ SB v v' := by
  refine Runs.ofP f27 rfl ?_
  have e0 : readyE l 0 = 0 := by simp [readyE]
  have hready := ready_run hR 0
  rw [e0] at hready
  have hsz := sized_run (size : Int) h
  rw [show decide (1 ≤ (size : Int) ∧ (size : Int) ≤ 4 ∨ (size : Int) = 8) = true by simp; omega] at hsz
  obtain ⟨r, h', c1, x, v', rfl, c2, c3, c4⟩ := take_run hR hn hl
  refine Wp.seq (Wp.region (Wo.all (by kernel_rfl) ?_))
  refine Wp.seq (Wp.seq (Wp.region (Wo.pre 1 (by kernel_rfl) (Wo.call (by kernel_rfl) (by kernel_rfl) hready (Wo.all (by kernel_rfl) ?_)))))
  refine Wp.seq (Wp.region (Wo.all (by kernel_rfl) ?_))
  refine Wp.cond false (by kernel_rfl) ?_
  refine Wp.skip ?_
  refine Wp.seq (Wp.seq (Wp.region (Wo.pre 1 (by kernel_rfl) (Wo.call (by kernel_rfl) (by kernel_rfl) hsz (Wo.all (by kernel_rfl) ?_)))))
  refine Wp.cond false (by kernel_rfl) ?_
  refine Wp.skip ?_
  refine Wp.seq (Wp.region (Wo.pre 2 (by kernel_rfl) (Wo.call (by kernel_rfl) (by kernel_rfl) c1 (Wo.all (by kernel_rfl) ?_))))
  refine Wp.seq (Wp.seq (Wp.region (Wo.all (by kernel_rfl) ?_)))
  refine Wp.cond false (by kernel_rfl) ?_
  refine Wp.skip ?_
  refine Wp.seq (Wp.region (Wo.all (by kernel_rfl) ?_))
  have hlt8 : size ≤ 8 := by omega
  have hln : (l.take size).length = size := by rw [List.length_take]; omega
  rcases c3 with ⟨rfl, e⟩ | ⟨blk, g, q1, q2, q3, q4⟩
  · exfalso
    rw [e] at hln
    simp at hln
    omega
  · rw [hln] at q4
    obtain ⟨cc, rfl⟩ : ∃ cc, x = .sl ⟨blk, g, 0⟩ size cc := by rcases q4 with rfl | rfl <;> exact ⟨_, rfl⟩
    refine Wp.seq (Wp.seq (Wp.region (Wo.all (by kernel_rfl) ?_)))
    refine Wp.block ?_
    refine rdnum_loop (cc := cc) hlt8 hln q3 size 0 (by omega) _ (by kernel_rfl) (by kernel_rfl) (by kernel_rfl) (by kernel_rfl) (by kernel_rfl) _ ?_
    intro ts' g1 g2
    show Wp TF _ (ts', h') _
    refine Wp.seq (Wp.region ?_)
    simp [g1, g2, getL_put, len_put]
    exact ⟨v', c2, c4⟩

/-- The reader's Num where it answers none: nothing is changed. -/
theorem rdnum_fail {h : H} {b : Nat} {v : AV} {l : List UInt8} (hR : Rd h b v l) {size : Int} (he : rdE l size ≠ 0) :
    Runs TF 27 [.ptr ⟨b, 0, 0⟩, .int .i64 size] h (.tup [.int .u64 0, .int .i64 (rdE l size)]) h := by
  refine Runs.of' f27 rfl ?_
  have e0 : readyE l 0 = 0 := by simp [readyE]
  have hready := ready_run hR 0
  rw [e0] at hready
  have hsz := sized_run size h
  refine Wp.seq (Wp.region (Wo.all (by kernel_rfl) ?_))
  refine Wp.seq (Wp.seq (Wp.region (Wo.pre 1 (by kernel_rfl) (Wo.call (by kernel_rfl) (by kernel_rfl) hready (Wo.all (by kernel_rfl) ?_)))))
  refine Wp.seq (Wp.region (Wo.all (by kernel_rfl) ?_))
  refine Wp.cond false (by kernel_rfl) ?_
  refine Wp.skip ?_
  by_cases hs : 1 ≤ size ∧ size ≤ 4 ∨ size = 8
  · have hlt : (l.length : Int) < size := by
      by_cases h1 : (l.length : Int) < size
      · exact h1
      · exact absurd (by simp [rdE, hs, h1]) he
    have e4 : rdE l size = 4 := by simp [rdE, hs, hlt]
    have er : readyE l size = 4 := by
      have : ¬ size < 0 := by omega
      simp [readyE, this, hlt]
    have ht := take_fail hR (n := size) (by rw [er]; decide)
    rw [er] at ht
    rw [decide_eq_true hs] at hsz
    refine Wp.seq (Wp.seq (Wp.region (Wo.pre 1 (by kernel_rfl) (Wo.call (by kernel_rfl) (by kernel_rfl) hsz (Wo.all (by kernel_rfl) ?_)))))
    refine Wp.cond false (by kernel_rfl) ?_
    refine Wp.skip ?_
    refine Wp.seq (Wp.region (Wo.pre 2 (by kernel_rfl) (Wo.call (by kernel_rfl) (by kernel_rfl) ht (Wo.all (by kernel_rfl) ?_))))
    refine Wp.seq (Wp.seq (Wp.region (Wo.all (by kernel_rfl) ?_)))
    refine Wp.cond true (by kernel_rfl) ?_
    refine Wp.seq (Wp.region (Wo.all (by kernel_rfl) (Wp.ret ?_)))
    rw [e4]
    exact ⟨.inr rfl, rfl, by kernel_rfl⟩
  · have e1 : rdE l size = 1 := by simp [rdE, hs]
    rw [decide_eq_false hs] at hsz
    refine Wp.seq (Wp.seq (Wp.region (Wo.pre 1 (by kernel_rfl) (Wo.call (by kernel_rfl) (by kernel_rfl) hsz (Wo.all (by kernel_rfl) ?_)))))
    refine Wp.cond true (by kernel_rfl) ?_
    refine Wp.seq (Wp.region (Wo.all (by kernel_rfl) (Wp.ret ?_)))
    rw [e1]
    exact ⟨.inr rfl, rfl, by kernel_rfl⟩

/-- The reader's Vec where it answers a row. -/
theorem vec_run {h : H} {b : Nat} {v : AV} {l : List UInt8} (hR : Rd h b v l) {size n : Nat} (hs : 1 ≤ size ∧ size ≤ 3) (hbe : be (l.take size) = n) (hn : size + n ≤ l.length) (hl : l.length ≤ maxRow) :
    ∃ r h', Runs TF 29 [.ptr ⟨b, 0, 0⟩, .int .i64 size] h r h' ∧ ∃ x v', r = .tup [x, .int .i64 0] ∧ Rd h' b v' (l.drop (size + n)) ∧ Ow h.n h' x ((l.drop size).take n) ∧ ExtB b h h' ∧ SB v v' := by
  refine Runs.ofP f29 rfl ?_
  obtain ⟨l0, l1⟩ := hR.ld
  have e0 : readyE l 0 = 0 := by simp [readyE]
  have hready := ready_run hR 0
  rw [e0] at hready
  have hsz := sized_run (size : Int) h
  rw [show decide (1 ≤ (size : Int) ∧ (size : Int) ≤ 4 ∨ (size : Int) = 8) = true by simp; omega] at hsz
  obtain ⟨r, h1, c1, v1, rfl, c2, c3⟩ := rdnum_run hR (size := size) (by omega) (by omega) hl
  rw [hbe] at c1
  obtain ⟨r, h2, d1, x, v2, rfl, d2, d3, d4⟩ := take_run c2 (n := n) (by rw [List.length_drop]; omega) (by rw [List.length_drop]; omega)
  have hw : IntKind.i64.wrap (n : Int) = n := i64_fit _ (by unfold maxRow at hl; omega)
  have d1' : Runs TF 31 [.ptr ⟨b, 0, 0⟩, .int .i64 (IntKind.i64.wrap (n : Int))] h1 (.tup [x, .int .i64 0]) h2 := by rw [hw]; exact d1
  refine Wp.seq (Wp.region (Wo.all (by kernel_rfl) ?_))
  refine Wp.seq (Wp.seq (Wp.region (Wo.pre 1 (by kernel_rfl) (Wo.call (by kernel_rfl) (by kernel_rfl) hready (Wo.all (by kernel_rfl) ?_)))))
  refine Wp.seq (Wp.region (Wo.all (by kernel_rfl) ?_))
  refine Wp.cond false (by kernel_rfl) ?_
  refine Wp.skip ?_
  refine Wp.seq (Wp.seq (Wp.region (Wo.pre 1 (by kernel_rfl) (Wo.call (by kernel_rfl) (by kernel_rfl) hsz (Wo.all (by kernel_rfl) ?_)))))
  refine Wp.cond (decide ((size : Int) > 3)) (by kernel_rfl) ?_
  rw [if_neg (by simp; omega)]
  refine Wp.skip ?_
  refine Wp.seq (Wp.region (Wo.pre 3 (by kernel_rfl) (Wo.val v h (by kernel_rfl) (iop_ld (a := ⟨b, 0, 0⟩) (by kernel_rfl) l0) (Wo.all (by kernel_rfl) ?_))))
  refine Wp.seq (Wp.region (Wo.pre 2 (by kernel_rfl) (Wo.call (by kernel_rfl) (by kernel_rfl) c1 (Wo.all (by kernel_rfl) ?_))))
  refine Wp.seq (Wp.seq (Wp.region (Wo.all (by kernel_rfl) ?_)))
  refine Wp.cond false (by kernel_rfl) ?_
  refine Wp.skip ?_
  refine Wp.seq (Wp.region (Wo.pre 3 (by kernel_rfl) (Wo.call (by kernel_rfl) (by kernel_rfl) d1' (Wo.all (by kernel_rfl) ?_))))
  refine Wp.seq (Wp.seq (Wp.region (Wo.all (by kernel_rfl) ?_)))
  refine Wp.cond false (by kernel_rfl) ?_
  refine Wp.skip ?_
  refine Wp.seq (Wp.region (Wo.all (by kernel_rfl) (Wp.ret ⟨.inr rfl, .tup [x, .int .i64 0], by kernel_rfl, ?_⟩)))
  refine ⟨x, v2, rfl, by rw [← List.drop_drop]; exact d2, d3.mono c3.1.1, c3.1.trans d4.1, c3.2.trans d4.2⟩

/-- The reader's Vec where the number itself is cut off. -/
theorem vec_short {h : H} {b : Nat} {v : AV} {l : List UInt8} (hR : Rd h b v l) {size : Nat} (hs : 1 ≤ size ∧ size ≤ 3) (hn : l.length < size) :
    Runs TF 29 [.ptr ⟨b, 0, 0⟩, .int .i64 size] h (.tup [.nils, .int .i64 4]) h := by
  refine Runs.of' f29 rfl ?_
  obtain ⟨l0, l1⟩ := hR.ld
  have e0 : readyE l 0 = 0 := by simp [readyE]
  have hready := ready_run hR 0
  rw [e0] at hready
  have hsz := sized_run (size : Int) h
  rw [show decide (1 ≤ (size : Int) ∧ (size : Int) ≤ 4 ∨ (size : Int) = 8) = true by simp; omega] at hsz
  have e4 : rdE l size = 4 := by
    have h1 : (1 ≤ (size : Int) ∧ (size : Int) ≤ 4 ∨ (size : Int) = 8) := by omega
    have h2 : (l.length : Int) < (size : Int) := by omega
    simp only [rdE, h1, h2, not_true, if_true, if_false]
  have c1 := rdnum_fail hR (size := size) (by rw [e4]; decide)
  rw [e4] at c1
  refine Wp.seq (Wp.region (Wo.all (by kernel_rfl) ?_))
  refine Wp.seq (Wp.seq (Wp.region (Wo.pre 1 (by kernel_rfl) (Wo.call (by kernel_rfl) (by kernel_rfl) hready (Wo.all (by kernel_rfl) ?_)))))
  refine Wp.seq (Wp.region (Wo.all (by kernel_rfl) ?_))
  refine Wp.cond false (by kernel_rfl) ?_
  refine Wp.skip ?_
  refine Wp.seq (Wp.seq (Wp.region (Wo.pre 1 (by kernel_rfl) (Wo.call (by kernel_rfl) (by kernel_rfl) hsz (Wo.all (by kernel_rfl) ?_)))))
  refine Wp.cond (decide ((size : Int) > 3)) (by kernel_rfl) ?_
  rw [if_neg (by simp; omega)]
  refine Wp.skip ?_
  refine Wp.seq (Wp.region (Wo.pre 3 (by kernel_rfl) (Wo.val v h (by kernel_rfl) (iop_ld (a := ⟨b, 0, 0⟩) (by kernel_rfl) l0) (Wo.all (by kernel_rfl) ?_))))
  refine Wp.seq (Wp.region (Wo.pre 2 (by kernel_rfl) (Wo.call (by kernel_rfl) (by kernel_rfl) c1 (Wo.all (by kernel_rfl) ?_))))
  refine Wp.seq (Wp.seq (Wp.region (Wo.all (by kernel_rfl) ?_)))
  refine Wp.cond true (by kernel_rfl) ?_
  refine Wp.seq (Wp.region (Wo.all (by kernel_rfl) (Wp.ret ?_)))
  exact ⟨.inr rfl, rfl, by kernel_rfl⟩

/-- The reader's Vec where the row is cut off: it stands where it stood. -/
theorem vec_cut {h : H} {b : Nat} {v : AV} {l : List UInt8} (hR : Rd h b v l) {size n : Nat} (hs : 1 ≤ size ∧ size ≤ 3) (hbe : be (l.take size) = n) (hsl : size ≤ l.length) (hn : l.length < size + n) (hl : l.length ≤ maxRow) (hn63 : n < 2 ^ 63) :
    ∃ h', Runs TF 29 [.ptr ⟨b, 0, 0⟩, .int .i64 size] h (.tup [.nils, .int .i64 4]) h' ∧ Rd h' b v l ∧ ExtB b h h' := by
  obtain ⟨l0, l1⟩ := hR.ld
  have e0 : readyE l 0 = 0 := by simp [readyE]
  have hready := ready_run hR 0
  rw [e0] at hready
  have hsz := sized_run (size : Int) h
  rw [show decide (1 ≤ (size : Int) ∧ (size : Int) ≤ 4 ∨ (size : Int) = 8) = true by simp; omega] at hsz
  obtain ⟨r, h1, c1, v1, rfl, c2, c3⟩ := rdnum_run hR (size := size) (by omega) (by omega) hl
  rw [hbe] at c1
  have hw : IntKind.i64.wrap (n : Int) = n := i64_fit _ (by omega)
  have e4 : readyE (l.drop size) n = 4 := by
    have h1 : ¬ ((n : Int) < 0) := by omega
    have h2 : (((l.drop size).length : Nat) : Int) < (n : Int) := by rw [List.length_drop]; omega
    simp only [readyE, h1, h2, if_true, if_false]
  have d1 := take_fail c2 (n := n) (by rw [e4]; decide)
  rw [e4] at d1
  have d1' : Runs TF 31 [.ptr ⟨b, 0, 0⟩, .int .i64 (IntKind.i64.wrap (n : Int))] h1 (.tup [.nils, .int .i64 4]) h1 := by rw [hw]; exact d1
  have hv : v.cells = [v] ∧ v.one = true := by rcases hR.2.2.1 with ⟨rfl, _⟩ | ⟨_, _, rfl, _, _⟩ <;> exact ⟨rfl, rfl⟩
  obtain ⟨X, hX⟩ : ∃ X, X = Blk.cells 0 121 [v, .bool true] 0 false := ⟨_, rfl⟩
  have S2 : h1.st ⟨b, 0, 0⟩ v.cells = some (h1.set b X) := by
    unfold H.st
    simp only [c2.2.1, hv.1]
    rw [if_pos (by simp [hv.2])]
    rw [hX]
    rfl
  have st_eq : ∀ (x y : IX) (ρ : IX → AV), ρ x = .ptr ⟨b, 0, 0⟩ → ρ y = v → iop (.st 1 x y) ρ h1 = some (.val .undef (h1.set b X)) := by
    intro x y ρ hx hy
    simp only [iop, hx, hy, S2]
    rw [if_pos (by rw [hv.1]; rfl)]
    rfl
  refine ⟨h1.set b X, Runs.of' f29 rfl ?_, ⟨c2.1, by rw [h1.get_set, hX], ?_, hR.2.2.2⟩, c3.1.1, fun k hk hkb => by rw [h1.get_set_ne b k X hkb]; exact c3.1.2 k hk hkb⟩
  · refine Wp.seq (Wp.region (Wo.all (by kernel_rfl) ?_))
    refine Wp.seq (Wp.seq (Wp.region (Wo.pre 1 (by kernel_rfl) (Wo.call (by kernel_rfl) (by kernel_rfl) hready (Wo.all (by kernel_rfl) ?_)))))
    refine Wp.seq (Wp.region (Wo.all (by kernel_rfl) ?_))
    refine Wp.cond false (by kernel_rfl) ?_
    refine Wp.skip ?_
    refine Wp.seq (Wp.seq (Wp.region (Wo.pre 1 (by kernel_rfl) (Wo.call (by kernel_rfl) (by kernel_rfl) hsz (Wo.all (by kernel_rfl) ?_)))))
    refine Wp.cond (decide ((size : Int) > 3)) (by kernel_rfl) ?_
    rw [if_neg (by simp; omega)]
    refine Wp.skip ?_
    refine Wp.seq (Wp.region (Wo.pre 3 (by kernel_rfl) (Wo.val v h (by kernel_rfl) (iop_ld (a := ⟨b, 0, 0⟩) (by kernel_rfl) l0) (Wo.all (by kernel_rfl) ?_))))
    refine Wp.seq (Wp.region (Wo.pre 2 (by kernel_rfl) (Wo.call (by kernel_rfl) (by kernel_rfl) c1 (Wo.all (by kernel_rfl) ?_))))
    refine Wp.seq (Wp.seq (Wp.region (Wo.all (by kernel_rfl) ?_)))
    refine Wp.cond false (by kernel_rfl) ?_
    refine Wp.skip ?_
    refine Wp.seq (Wp.region (Wo.pre 3 (by kernel_rfl) (Wo.call (by kernel_rfl) (by kernel_rfl) d1' (Wo.all (by kernel_rfl) ?_))))
    refine Wp.seq (Wp.seq (Wp.region (Wo.all (by kernel_rfl) ?_)))
    refine Wp.cond true (by kernel_rfl) ?_
    refine Wp.seq (Wp.region (Wo.pre 4 (by kernel_rfl) (Wo.val .undef (h1.set b X) (by kernel_rfl) (st_eq _ _ _ (by kernel_rfl) (by kernel_rfl)) (Wo.nil ?_))))
    refine Wp.seq (Wp.region (Wo.all (by kernel_rfl) (Wp.ret ?_)))
    exact ⟨.inr rfl, rfl, by kernel_rfl⟩
  · rcases hR.2.2.1 with ⟨e1, e2⟩ | ⟨a, c, e1, e2, e3⟩
    · exact .inl ⟨e1, e2⟩
    · have hab := (hR.2.2.2 _ _ _ e1).1
      exact .inr ⟨a, c, e1, Nat.lt_of_lt_of_le e2 c3.1.1, by rw [ldn_same (h1.get_set_ne b _ X hab), ldn_same (c3.1.2 _ e2 hab)]; exact e3⟩

theorem numE_lt {n : Nat} {size : Nat} (hs : 1 ≤ size ∧ size ≤ 3) (he : numE n size = 0) : n < 16777216 := by
  have h1 : (1 ≤ (size : Int) ∧ (size : Int) ≤ 4 ∨ (size : Int) = 8) := by omega
  simp only [numE, h1, not_true, if_false, Int.toNat_natCast] at he
  split at he
  · cases he
  · rename_i h2
    have h3 : 2 ^ (8 * size) ≤ 2 ^ 24 := Nat.pow_le_pow_right (by omega) (by omega)
    omega

/-- wire.Vec, sizes 1 to 3. -/
theorem wvec_run {h : H} {x y : AV} {lx ly : List UInt8} (hx : Bs h x lx) (hy : Bs h y ly) {size : Nat} (hs : 1 ≤ size ∧ size ≤ 3) (hl : lx.length + 16777224 ≤ maxRow) (hl2 : ly.length ≤ maxRow) :
    ∃ r h', Runs TF 21 [x, y, .int .i64 size] h r h' ∧ ∃ z, r = .tup [z, .int .i64 (numE ly.length size)] ∧ Ext h h' ∧ Ow h.n h' z (if numE ly.length size = 0 then lx ++ digits ly.length size size ++ ly else []) := by
  refine Runs.ofP f21 rfl ?_
  have h64 : ly.length < 2 ^ 64 := by have := hl2; unfold maxRow at this; omega
  have hw : IntKind.u64.wrap ((ly.length : Nat) : Int) = ((ly.length : Nat) : Int) := u64_fit _ (by omega)
  obtain ⟨r, h1, c1, z1, rfl, c2, c3⟩ := num_run hx (by omega) h64 (size : Int)
  rw [← hw] at c1
  refine Wp.seq (Wp.region (Wo.all (by kernel_rfl) ?_))
  refine Wp.seq (Wp.seq (Wp.region (Wo.all (by kernel_rfl) ?_)))
  refine Wp.cond (decide ((size : Int) > 3)) (by kernel_rfl) ?_
  rw [if_neg (by simp; omega)]
  refine Wp.skip ?_
  by_cases he : numE ly.length size = 0
  · rw [he] at c1
    rw [if_pos he] at c3
    obtain ⟨z, h2, e1, e2, e3, e4⟩ := Ow.app c3 (hy.ext c2) c2.1 (by rw [List.length_append, digits_len]; have := numE_lt hs he; omega)
    have app_eq : ∀ (p q : IX) (ρ : IX → AV), ρ p = z1 → ρ q = y → iop (.app 5 1 1 false p q) ρ h1 = some (.val z h2) := by
      intro p q ρ hp hq
      simp only [iop, hp, hq, hy.notStr, BEq.rfl, if_true, e1]
    refine Wp.seq (Wp.region (Wo.pre 2 (by kernel_rfl) (Wo.val (.int .i64 ly.length) h (by kernel_rfl) (hy.len (by kernel_rfl)) (Wo.pre 2 (by kernel_rfl) (Wo.call (by kernel_rfl) (by kernel_rfl) c1 (Wo.all (by kernel_rfl) ?_))))))
    refine Wp.seq (Wp.seq (Wp.region (Wo.all (by kernel_rfl) ?_)))
    refine Wp.cond false (by kernel_rfl) ?_
    refine Wp.skip ?_
    refine Wp.seq (Wp.region (Wo.pre 2 (by kernel_rfl) (Wo.val z h2 (by kernel_rfl) (app_eq _ _ _ (by kernel_rfl) (by kernel_rfl)) (Wo.all (by kernel_rfl) (Wp.ret ⟨.inr rfl, .tup [z, .int .i64 0], by kernel_rfl, ?_⟩)))))
    refine ⟨z, by rw [he], ⟨Nat.le_trans c2.1 e3.1, fun k hk => (e3.2 k hk).trans (c2.2 k hk)⟩, ?_⟩
    rw [if_pos he]
    exact e2
  · have e3 : numE ly.length size = 3 := by
      have h1 : (1 ≤ (size : Int) ∧ (size : Int) ≤ 4 ∨ (size : Int) = 8) := by omega
      simp only [numE, h1, not_true, if_false] at he ⊢
      split at he
      · rename_i h2; rw [if_pos h2]
      · exact absurd rfl he
    rw [if_neg he] at c3
    rw [e3] at c1
    refine Wp.seq (Wp.region (Wo.pre 2 (by kernel_rfl) (Wo.val (.int .i64 ly.length) h (by kernel_rfl) (hy.len (by kernel_rfl)) (Wo.pre 2 (by kernel_rfl) (Wo.call (by kernel_rfl) (by kernel_rfl) c1 (Wo.all (by kernel_rfl) ?_))))))
    refine Wp.seq (Wp.seq (Wp.region (Wo.all (by kernel_rfl) ?_)))
    refine Wp.cond true (by kernel_rfl) ?_
    refine Wp.seq (Wp.region (Wo.all (by kernel_rfl) (Wp.ret ⟨.inr rfl, .tup [.nils, .int .i64 3], by kernel_rfl, ?_⟩)))
    refine ⟨.nils, by rw [e3], c2, ?_⟩
    rw [if_neg he]
    exact .inl ⟨rfl, rfl⟩
end Go.Det
