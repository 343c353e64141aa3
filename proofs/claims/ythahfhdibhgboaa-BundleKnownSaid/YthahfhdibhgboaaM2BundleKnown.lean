/- Texts of the proof, one behind the other (Read, Same, Heads, Lays, Spoil, LaysR, RefL, RefR, Reads, ReadsR, Thing, May, Ent1, Ent2, Ent3, List, Ent4, SameE, SameF, SpoilE, Own, SpoilR, Makes, CertL, Certs, TakeRec, ItemL, Fr, TakeItem, SpoilI, ChOf, TakesR, EBackR, BunL, IRB, RowG, Bun, Tk, SpB, IRN, NameL, Name). -/
import Derived.Test.YthahfhdibhgboaaM1BundleKnown
/- What the packet's reader does: it takes numbers and rows of bytes from ahead. -/
set_option linter.unusedVariables false
set_option linter.unusedSimpArgs false
namespace Go.Det
open Go.Proofs
attribute [local simp] skip_iff ret_iff exit_iff seq_iff block_iff thenQ_normal thenQ_ret thenQ_exit thenQ_goto blockQ_normal blockQ_ret blockQ_exit blockQ_goto condQ_bool cond_iff region_iff wo_nil ansQ_val ansQ_call wo_cons wo_guard wanted put setL getL ev iop binop binInt shInt asI retV resOf unop draw_iff wd_nil wd_quiet wd_act holds_nil holds_cons
attribute [local congr] ansQ_congr condQ_congr Wo_congr Wp_congr Wd_congr

/-- A reader: its block, the row that is left, and how it reads. -/
def Rd (h : H) (b : Nat) (v : AV) (l : List UInt8) : Prop := b < h.n ∧ h.get b = some (.cells 0 121 [v, .bool true] 0 false) ∧ Bs h v l ∧ ∀ a n c, v = .sl a n c → a.b ≠ b ∧ ((∃ k, c = .ex k ∧ n ≤ k) ∨ c = .op 1)

theorem Rd.ld {h : H} {b : Nat} {v : AV} {l : List UInt8} (hR : Rd h b v l) : h.ldg ⟨b, 0, 0⟩ none = some v ∧ h.ldg ⟨b, 0, 1⟩ none = some (.bool true) := by
  simp [H.ldg, H.ld, H.row, hR.2.1]

theorem Ow.blk {lo : Nat} {h : H} {v : AV} {l : List UInt8} (ho : Ow lo h v l) {a : AA} {n : Nat} {c : Cp} (e : v = .sl a n c) : lo ≤ a.b ∧ a.b < h.n := by
  subst e
  rcases ho with ⟨e1, _⟩ | ⟨b', g', q1, q2, _, e1 | e1⟩
  · simp at e1
  · simp only [AV.sl.injEq] at e1; rw [e1.1]; exact ⟨q1, q2⟩
  · simp only [AV.sl.injEq] at e1; rw [e1.1]; exact ⟨q1, q2⟩

theorem new_run {v : AV} {l : List UInt8} {h : H} (hb : Bs h v l) (hl : l.length ≤ maxRow) : ∃ p h', Runs TF 25 [v] h p h' ∧ ∃ b u, p = .ptr ⟨b, 0, 0⟩ ∧ h.n ≤ b ∧ Rd h' b u l ∧ Ext h h' ∧ Ow h.n h' u l ∧ ∀ a n c, u = .sl a n c → h.n ≤ a.b ∧ a.b < b := by
  obtain ⟨x, h1, c1, c2, c3⟩ := clone_run hb hl
  have hx : x.cells = [x] ∧ x.one = true := by rcases c3 with ⟨rfl, _⟩ | ⟨_, _, _, _, _, rfl | rfl⟩ <;> exact ⟨rfl, rfl⟩
  obtain ⟨B, hB⟩ : ∃ B, B = Blk.cells 0 121 [x, .bool true] 0 false := ⟨_, rfl⟩
  have hO := c3.ext (Ext.new h1 B)
  refine ⟨.ptr ⟨h1.n, 0, 0⟩, h1.new B, Runs.of' f25 rfl ?_, h1.n, x, rfl, c2.1, ⟨by simp, by rw [h1.get_new, hB], hO.bs, ?_⟩, c2.trans (Ext.new h1 B), hO, fun a n c e => c3.blk e⟩
  · simp [List.replicate]
    refine ⟨_, _, c1, ?_⟩
    have o1 : (AV.bool true).one = true := rfl
    have o2 : (AV.bool true).cells = [AV.bool true] := rfl
    have o3 : ∀ cs, (AV.agg cs).cells = cs := fun _ => rfl
    simp [fillL, hx.1, hx.2, o2, o3, putAt, o1, ← hB]
  · rintro a n c rfl
    rcases c3 with ⟨e, _⟩ | ⟨b, g, g1, g2, g3, e | e⟩
    · simp at e
    · simp only [AV.sl.injEq] at e
      obtain ⟨rfl, rfl, rfl⟩ := e
      exact ⟨by simp; omega, .inr rfl⟩
    · simp only [AV.sl.injEq] at e
      obtain ⟨rfl, rfl, rfl⟩ := e
      exact ⟨by simp; omega, .inl ⟨_, rfl, Nat.le_refl _⟩⟩

def readyE (l : List UInt8) (n : Int) : Int := if n < 0 then 1 else if (l.length : Int) < n then 4 else 0

theorem ready_run {h : H} {b : Nat} {v : AV} {l : List UInt8} (hR : Rd h b v l) (n : Int) : Runs TF 75 [.ptr ⟨b, 0, 0⟩, .int .i64 n] h (.int .i64 (readyE l n)) h := by
  obtain ⟨l0, l1⟩ := hR.ld
  have hb := hR.2.2.1
  refine Runs.of' f75 rfl ?_
  refine Wp.seq (Wp.region (Wo.all (by kernel_rfl) ?_))
  refine Wp.seq (Wp.block (Wp.seq (Wp.region (Wo.pre 6 (by kernel_rfl) ?_))))
  refine Wo.val (.bool true) h (by kernel_rfl) (iop_ld (a := ⟨b, 0, 1⟩) (by kernel_rfl) l1) (Wo.all (by kernel_rfl) ?_)
  refine Wp.cond false (by kernel_rfl) ?_
  refine Wp.seq (Wp.region (Wo.all (by kernel_rfl) ?_))
  refine Wp.cond (decide (n < 0)) (by kernel_rfl) ?_
  by_cases h1 : n < 0
  · rw [if_pos (by simpa using h1)]
    refine Wp.seq (Wp.region (Wo.all (by kernel_rfl) (Wp.ret ?_)))
    exact ⟨.inr rfl, rfl, by rw [readyE, if_pos h1]; kernel_rfl⟩
  · rw [if_neg (by simpa using h1)]
    refine Wp.seq (Wp.region (Wo.pre 4 (by kernel_rfl) ?_))
    refine Wo.val v h (by kernel_rfl) (iop_ld (a := ⟨b, 0, 0⟩) (by kernel_rfl) l0) ?_
    refine Wo.val (.int .i64 l.length) h (by kernel_rfl) (hb.len (by kernel_rfl)) (Wo.all (by kernel_rfl) ?_)
    refine Wp.cond (decide ((l.length : Int) < n)) (by kernel_rfl) ?_
    by_cases h2 : (l.length : Int) < n
    · rw [if_pos (by simpa using h2)]
      refine Wp.seq (Wp.region (Wo.all (by kernel_rfl) (Wp.ret ?_)))
      exact ⟨.inr rfl, rfl, by rw [readyE, if_neg h1, if_pos h2]; kernel_rfl⟩
    · rw [if_neg (by simpa using h2)]
      refine Wp.skip ?_
      refine Wp.seq (Wp.region (Wo.all (by kernel_rfl) (Wp.ret ?_)))
      exact ⟨.inr rfl, rfl, by rw [readyE, if_neg h1, if_neg h2]; kernel_rfl⟩

theorem left_run {h : H} {b : Nat} {v : AV} {l : List UInt8} (hR : Rd h b v l) : Runs TF 33 [.ptr ⟨b, 0, 0⟩] h (.int .i64 l.length) h := by
  obtain ⟨l0, l1⟩ := hR.ld
  refine Runs.of' f33 rfl ?_
  rcases hR.2.2.1 with ⟨rfl, rfl⟩ | ⟨a, c, rfl, _, _⟩ <;> simp [List.replicate, eqv, l0]

/-- Only the reader's own block is written. -/
def ExtB (b : Nat) (h h' : H) : Prop := h.n ≤ h'.n ∧ ∀ k, k < h.n → k ≠ b → h'.get k = h.get k

theorem ExtB.trans {b : Nat} {h h' h'' : H} (x : ExtB b h h') (y : ExtB b h' h'') : ExtB b h h'' := ⟨Nat.le_trans x.1 y.1, fun k hk hb => (y.2 k (Nat.lt_of_lt_of_le hk x.1) hb).trans (x.2 k hk hb)⟩
theorem Ext.b {h h' : H} (x : Ext h h') (b : Nat) : ExtB b h h' := ⟨x.1, fun k hk _ => x.2 k hk⟩

theorem take_fail {h : H} {b : Nat} {v : AV} {l : List UInt8} (hR : Rd h b v l) {n : Int} (hn : readyE l n ≠ 0) : Runs TF 31 [.ptr ⟨b, 0, 0⟩, .int .i64 n] h (.tup [.nils, .int .i64 (readyE l n)]) h := by
  refine Runs.of' f31 rfl ?_
  simp [List.replicate]
  refine ⟨_, _, ready_run hR n, ?_⟩
  simp [hn]

/-- A row in the same block. -/
def SB (v v' : AV) : Prop := ∀ a n c, v' = .sl a n c → ∃ a0 n0 c0, v = .sl a0 n0 c0 ∧ a0.b = a.b
theorem SB.refl (v : AV) : SB v v := fun a n c e => ⟨a, n, c, e, rfl⟩
theorem SB.trans {u v w : AV} (x : SB u v) (y : SB v w) : SB u w := by
  intro a n c e
  obtain ⟨a1, n1, c1, e1, q1⟩ := y a n c e
  obtain ⟨a2, n2, c2, e2, q2⟩ := x a1 n1 c1 e1
  exact ⟨a2, n2, c2, e2, q2.trans q1⟩

theorem take_run {h : H} {b : Nat} {v : AV} {l : List UInt8} (hR : Rd h b v l) {n : Nat} (hn : n ≤ l.length) (hl : l.length ≤ maxRow) :
    ∃ r h', Runs TF 31 [.ptr ⟨b, 0, 0⟩, .int .i64 n] h r h' ∧ ∃ x v', r = .tup [x, .int .i64 0] ∧ Rd h' b v' (l.drop n) ∧ Ow h.n h' x (l.take n) ∧ ExtB b h h' ∧ SB v v' := by
  obtain ⟨l0, l1⟩ := hR.ld
  refine Runs.ofP f31 rfl ?_
  have e0 : readyE l n = 0 := by simp [readyE]; omega
  have hready := ready_run hR (n : Int)
  rw [e0] at hready
  have hm : n ≤ maxRow := by omega
  have hm2 : (n : Int) ≤ 9223372036854775807 := by unfold maxRow at hm; omega
  have hm3 : (n : Int) ≤ (maxRow : Int) := by omega
  obtain ⟨Z, hZ⟩ : ∃ Z, Z = Blk.cells 0 5 (List.replicate n (.int .u8 0)) 0 false := ⟨_, rfl⟩
  obtain ⟨Y, hY⟩ : ∃ Y, Y = Blk.cells 0 5 (bytesAV (l.take n)) 0 false := ⟨_, rfl⟩
  have hb := hR.1
  have gK : ∀ k, k ≠ h.n → ((h.new Z).set h.n Y).get k = h.get k := fun k hk => by rw [H.get_set_ne _ _ _ _ hk, h.get_new_ne k Z hk]
  have gb : ((h.new Z).set h.n Y).get b = some (.cells 0 121 [v, .bool true] 0 false) := by rw [gK b (by omega)]; exact hR.2.1
  have L1 : (h.new Z).ldg ⟨b, 0, 0⟩ none = some v := by simp [H.ldg, H.ld, H.row, h.get_new_ne b Z (by omega), hR.2.1]
  have L2 : ((h.new Z).set h.n Y).ldg ⟨b, 0, 0⟩ none = some v := by simp [H.ldg, H.ld, H.row, gb]
  have S1 : (h.new Z).st ⟨h.n, 0, 0⟩ (bytesAV (l.take n)) = some ((h.new Z).set h.n Y) := by
    unfold H.st
    simp only [h.get_new, hZ]
    have hone := bytes_one (l.take n)
    have hlen : (bytesAV (l.take n)).length = n := by rw [bytes_len, List.length_take]; omega
    rw [if_pos (by rw [hone, hlen]; simp)]
    have e : putAt (List.replicate n (AV.int .u8 0)) 0 (bytesAV (l.take n)) = bytesAV (l.take n) := by
      have : putAt (List.replicate n (AV.int .u8 0)) 0 (bytesAV (l.take n)) = bytesAV (l.take n) ++ (List.replicate n (AV.int .u8 0)).drop (bytesAV (l.take n)).length := by
        cases n <;> rfl
      rw [this, hlen]
      simp
    rw [e, hY]
  have C1 : ∀ {x y : IX} {ρ : IX → AV}, ρ x = .sl ⟨h.n, 0, 0⟩ n (.ex n) → ρ y = v → iop (.copy 1 x y) ρ (h.new Z) = some (.val (.int .i64 n) ((h.new Z).set h.n Y)) := by
    intro x y ρ hx hy
    rcases hR.2.2.1 with ⟨rfl, rfl⟩ | ⟨a, c, rfl, ha, hld⟩
    · have : n = 0 := by simpa using hn
      subst this
      simp only [iop, hx, hy, srcLen, srcFirst]
      rw [show bytesAV (([] : List UInt8).take 0) = ([] : List AV) from rfl] at S1
      rw [S1]
      rfl
    · have hmin : Nat.min l.length n = n := Nat.min_eq_right hn
      have hl2 : (h.new Z).ldn a (n * 1) = some (bytesAV (l.take n)) := by
        rw [ldn_same (h.get_new_ne _ Z (by omega)), Nat.mul_one, ldn_take hld hn, bytes_take]
      simp only [iop, hx, hy, srcLen, srcFirst, hmin, hl2, S1, Option.map_some]
  refine Wp.seq (Wp.region (Wo.all (by kernel_rfl) ?_))
  refine Wp.seq (Wp.seq (Wp.region (Wo.pre 2 (by kernel_rfl) (Wo.call (by kernel_rfl) (by kernel_rfl) hready (Wo.all (by kernel_rfl) ?_)))))
  refine Wp.seq (Wp.region (Wo.all (by kernel_rfl) ?_))
  refine Wp.cond false (by kernel_rfl) ?_
  refine Wp.skip ?_
  refine Wp.seq (Wp.region (Wo.pre 1 (by kernel_rfl) (Wo.val (.sl ⟨h.n, 0, 0⟩ n (.ex n)) (h.new Z) (by kernel_rfl) (by rw [hZ]; exact iop_mkS (k := .i64) (by kernel_rfl) hm) (Wo.all (by kernel_rfl) ?_))))
  refine Wp.seq (Wp.region (Wo.pre 4 (by kernel_rfl) (Wo.val v (h.new Z) (by kernel_rfl) (iop_ld (a := ⟨b, 0, 0⟩) (by kernel_rfl) L1) (Wo.val (.int .i64 n) ((h.new Z).set h.n Y) (by kernel_rfl) (C1 (by kernel_rfl) (by kernel_rfl)) (Wo.nil ?_)))))
  refine Wp.seq (Wp.region (Wo.pre 4 (by kernel_rfl) (Wo.val v ((h.new Z).set h.n Y) (by kernel_rfl) (iop_ld (a := ⟨b, 0, 0⟩) (by kernel_rfl) L2) ?_)))
  have hBK : Bs ((h.new Z).set h.n Y) v l := by
    rcases hR.2.2.1 with ⟨rfl, rfl⟩ | ⟨a, c, rfl, ha, hld⟩
    · exact .inl ⟨rfl, rfl⟩
    · exact .inr ⟨a, c, rfl, by simp; omega, by rw [ldn_same (gK _ (by omega))]; exact hld⟩
  obtain ⟨v', d1, d2, d3, d4, d5⟩ := hBK.drop (fun a m c e => (hR.2.2.2 a m c e).2) hn
  obtain ⟨X, hX⟩ : ∃ X, X = Blk.cells 0 121 [v', .bool true] 0 false := ⟨_, rfl⟩
  have S2 : ((h.new Z).set h.n Y).st ⟨b, 0, 0⟩ v'.cells = some (((h.new Z).set h.n Y).set b X) := by
    unfold H.st
    simp only [gb, d4]
    rw [if_pos (by simp [d5])]
    rw [hX]
    rfl
  refine Wo.pre 1 (by kernel_rfl) (Wo.val v' ((h.new Z).set h.n Y) (by kernel_rfl) (d1 _ _ _ (by kernel_rfl) (by kernel_rfl)) (Wo.pre 2 (by kernel_rfl) (Wo.val .undef (((h.new Z).set h.n Y).set b X) (by kernel_rfl) ?_ (Wo.nil ?_))))
  · have st_eq : ∀ (x y : IX) (ρ : IX → AV), ρ x = .ptr ⟨b, 0, 0⟩ → ρ y = v' → iop (.st 1 x y) ρ ((h.new Z).set h.n Y) = some (.val .undef (((h.new Z).set h.n Y).set b X)) := by
      intro x y ρ hx hy
      simp only [iop, hx, hy, S2]
      rw [if_pos (by rw [d4]; rfl)]
      rfl
    exact st_eq _ _ _ (by kernel_rfl) (by kernel_rfl)
  have hln : (l.take n).length = n := by rw [List.length_take]; omega
  have hne : h.n ≠ b := by omega
  refine Wp.seq (Wp.region (Wo.all (by kernel_rfl) (Wp.ret ⟨.inr rfl, .tup [.sl ⟨h.n, 0, 0⟩ n (.ex n), .int .i64 0], by kernel_rfl, ?_⟩)))
  refine ⟨.sl ⟨h.n, 0, 0⟩ n (.ex n), v', rfl, ⟨by show b < h.n + 1; omega, by show H.get _ b = _; rw [H.get_set, hX], ?_, ?_⟩, ?_, ?_, fun a m c e => (d3 a m c e).1⟩
  · rcases d2 with ⟨e1, e2⟩ | ⟨a, c, e1, e2, e3⟩
    · exact .inl ⟨e1, e2⟩
    · obtain ⟨⟨a0, m0, c0, q1, q2⟩, _⟩ := d3 _ _ _ e1
      have hab : a.b ≠ b := by rw [← q2]; exact (hR.2.2.2 _ _ _ q1).1
      exact .inr ⟨a, c, e1, e2, by rw [ldn_same (H.get_set_ne _ b _ X hab)]; exact e3⟩
  · intro a m c e
    obtain ⟨⟨a0, m0, c0, q1, q2⟩, q3⟩ := d3 _ _ _ e
    exact ⟨by rw [← q2]; exact (hR.2.2.2 _ _ _ q1).1, q3⟩
  · refine .inr ⟨h.n, 0, Nat.le_refl _, by show h.n < h.n + 1; omega, by show H.get _ h.n = _; rw [H.get_set_ne _ b _ X hne, H.get_set, hY], .inr (by rw [hln])⟩
  · exact ⟨by show h.n ≤ h.n + 1; omega, fun k hk hkb => by show H.get _ k = _; rw [H.get_set_ne _ b _ X hkb, gK k (by omega)]⟩

/-- A number's bytes, the first one foremost. -/
def be (l : List UInt8) : Nat := l.foldl (fun a c => a * 256 + c.toNat) 0
theorem be_snoc (l : List UInt8) (c : UInt8) : be (l ++ [c]) = be l * 256 + c.toNat := by simp [be]
theorem be_from : ∀ (l : List UInt8) (a : Nat), l.foldl (fun a c => a * 256 + c.toNat) a < (a + 1) * 256 ^ l.length
  | [], a => by simp
  | c :: l, a => by
    have h1 := be_from l (a * 256 + c.toNat)
    have h2 := c.toNat_lt
    have h3 : (a * 256 + c.toNat + 1) * 256 ^ l.length ≤ (a + 1) * 256 * 256 ^ l.length := Nat.mul_le_mul_right _ (by omega)
    simp only [List.foldl_cons, List.length_cons, Nat.pow_succ]
    have h4 : (a + 1) * (256 ^ l.length * 256) = (a + 1) * 256 * 256 ^ l.length := by rw [Nat.mul_comm (256 ^ l.length), Nat.mul_assoc]
    rw [h4]
    exact Nat.lt_of_lt_of_le h1 h3
theorem be_lt (l : List UInt8) : be l < 256 ^ l.length := by have := be_from l 0; simpa [be] using this

theorem or_add {A c : Nat} (hA : A * 256 < 2 ^ 64) (hc : c < 256) : IntKind.u64.wrap (((BitVec.ofInt IntKind.u64.bits ((A * 256 : Nat) : Int) ||| BitVec.ofInt IntKind.u64.bits (c : Int)).toNat : Nat) : Int) = ((A * 256 + c : Nat) : Int) := by
  have e : (BitVec.ofInt IntKind.u64.bits ((A * 256 : Nat) : Int) ||| BitVec.ofInt IntKind.u64.bits (c : Int)).toNat = A * 256 + c := by
    rw [BitVec.toNat_or, BitVec.ofInt_natCast, BitVec.ofInt_natCast, BitVec.toNat_ofNat, BitVec.toNat_ofNat]
    have h1 : A * 256 % 2 ^ IntKind.u64.bits = A * 256 := Nat.mod_eq_of_lt (by simpa [IntKind.bits] using hA)
    have h2 : c % 2 ^ IntKind.u64.bits = c := Nat.mod_eq_of_lt (by simp [IntKind.bits]; omega)
    rw [h1, h2]
    have := Nat.shiftLeft_add_eq_or_of_lt (i := 8) (b := c) (by omega) A
    rw [Nat.shiftLeft_eq] at this
    exact this.symm
  rw [e, u64_fit _ (by omega)]

/-- The loop of the reader's Num. -/
theorem rdnum_loop {l : List UInt8} {blk g : Nat} {cc : Cp} {size : Nat} (hs : size ≤ 8) (hl : l.length = size) {h : H} (hg : h.get blk = some (.cells g 5 (bytesAV l) 0 false)) :
    ∀ (k i : Nat), i + k = size → ∀ (ts : List AV), ts.length = 42 → getL ts 7 = some (.sl ⟨blk, g, 0⟩ size cc) → getL ts 9 = some (.int .u64 (be (l.take i) : Nat)) → getL ts 28 = some (.int .i64 size) → getL ts 29 = some (.int .i64 i) →
      ∀ (Q : Ex → St → Prop), (∀ ts', ts'.length = 42 → getL ts' 9 = some (.int .u64 (be l : Nat)) → Q (.exit 0) (ts', h)) → Wp TF (.loop l27_1) (ts, h) Q := by
  intro k
  induction k with
  | zero =>
    intro i hi ts t0 t7 t9 t28 t29 Q hQ
    obtain rfl : i = size := by omega
    refine Wp.loop ?_
    simp [l27_1, t0, t28, t29, getL_put, len_put]
    refine hQ _ (by simp [t0, len_put]) ?_
    simp [getL_put, t9]
    rw [← hl, List.take_length]
  | succ k ih =>
    intro i hi ts t0 t7 t9 t28 t29 Q hQ
    refine Wp.loop ?_
    have hlt : i < size := by omega
    have hget : l[i]? = some (l[i]'(by omega)) := by simp [hl, hlt]
    obtain ⟨c, hc⟩ : ∃ c, l[i]? = some c := ⟨_, hget⟩
    have hld : h.ldg ⟨blk, g, i⟩ none = some (.int .u8 c.toNat) := by simp [H.ldg, H.ld, H.row, hg, get_byte, hc]
    have ht : l.take (i + 1) = l.take i ++ [c] := by rw [List.take_add_one, hc]; rfl
    have hA : be (l.take i) < 256 ^ i := by have := be_lt (l.take i); rwa [List.length_take, Nat.min_eq_left (by omega)] at this
    have hA2 : be (l.take i) * 256 < 2 ^ 64 := by
      have : 256 ^ i ≤ 256 ^ 7 := Nat.pow_le_pow_right (by omega) (by omega)
      omega
    have w1 : IntKind.i64.wrap ((i : Int) + 1) = (i : Int) + 1 := i64_fit _ (by omega)
    obtain ⟨A, hAe⟩ : ∃ A, A = be (l.take i) := ⟨_, rfl⟩
    rw [← hAe] at t9 hA2
    have w2 : IntKind.u64.wrap ((A : Int) * 256) = (A : Int) * 256 := u64_fit _ (by omega)
    have hc8 := c.toNat_lt
    have w3 : IntKind.u64.wrap ((c.toNat : Nat) : Int) = ((c.toNat : Nat) : Int) := u64_fit _ (by omega)
    have w4 := or_add hA2 (c := c.toNat) (by omega)
    have w5 : IntKind.u64.wrap (((BitVec.ofInt 64 ((A : Int) * 256) ||| BitVec.ofNat 64 c.toNat).toNat : Nat) : Int) = ((be (l.take (i + 1)) : Nat) : Int) := by
      rw [← BitVec.ofInt_natCast, ht, be_snoc, ← hAe, ← w4, Int.natCast_mul]
      rfl
    simp only [l27_1]
    simp [t0, t7, t9, t28, t29, getL_put, len_put, hlt, hld, IntKind.bits]
    refine ih (i + 1) (by omega) _ (by simp [t0, len_put]) (by simp [t7, getL_put]) ?_ (by simp [t28, getL_put]) (by simp [t0, getL_put, len_put, w1]) Q hQ
    simp [t0, getL_put, len_put, w2, w3]
    exact w5

def rdE (l : List UInt8) (size : Int) : Int := if ¬ (1 ≤ size ∧ size ≤ 4 ∨ size = 8) then 1 else if (l.length : Int) < size then 4 else 0

/-- The reader's Num where it answers a number. -/
theorem rdnum_run {h : H} {b : Nat} {v : AV} {l : List UInt8} (hR : Rd h b v l) {size : Nat} (hs : 1 ≤ size ∧ size ≤ 4 ∨ size = 8) (hn : size ≤ l.length) (hl : l.length ≤ maxRow) :
    ∃ r h', Runs TF 27 [.ptr ⟨b, 0, 0⟩, .int .i64 size] h r h' ∧ ∃ v', r = .tup [.int .u64 (be (l.take size) : Nat), .int .i64 0] ∧ Rd h' b v' (l.drop size) ∧ ExtB b h h' ∧ SB v v' := by
  refine Runs.ofP f27 rfl ?_
  have e0 : readyE l 0 = 0 := by simp [readyE]
  have hready := ready_run hR 0
  rw [e0] at hready
  have hsz := sized_run (size : Int) h
  rw [show decide (1 ≤ (size : Int) ∧ (size : Int) ≤ 4 ∨ (size : Int) = 8) = true by simp; omega] at hsz
  obtain ⟨r, h', c1, x, v', rfl, c2, c3, c4⟩ := take_run hR hn hl
  refine Wp.seq (Wp.region (Wo.all (by kernel_rfl) ?_))
  refine Wp.seq (Wp.seq (Wp.region (Wo.pre 1 (by kernel_rfl) (Wo.call (by kernel_rfl) (by kernel_rfl) hready (Wo.all (by kernel_rfl) ?_)))))
  refine Wp.seq (Wp.region (Wo.all (by kernel_rfl) ?_))
  refine Wp.cond false (by kernel_rfl) ?_
  refine Wp.skip ?_
  refine Wp.seq (Wp.seq (Wp.region (Wo.pre 1 (by kernel_rfl) (Wo.call (by kernel_rfl) (by kernel_rfl) hsz (Wo.all (by kernel_rfl) ?_)))))
  refine Wp.cond false (by kernel_rfl) ?_
  refine Wp.skip ?_
  refine Wp.seq (Wp.region (Wo.pre 2 (by kernel_rfl) (Wo.call (by kernel_rfl) (by kernel_rfl) c1 (Wo.all (by kernel_rfl) ?_))))
  refine Wp.seq (Wp.seq (Wp.region (Wo.all (by kernel_rfl) ?_)))
  refine Wp.cond false (by kernel_rfl) ?_
  refine Wp.skip ?_
  refine Wp.seq (Wp.region (Wo.all (by kernel_rfl) ?_))
  have hlt8 : size ≤ 8 := by omega
  have hln : (l.take size).length = size := by rw [List.length_take]; omega
  rcases c3 with ⟨rfl, e⟩ | ⟨blk, g, q1, q2, q3, q4⟩
  · exfalso
    rw [e] at hln
    simp at hln
    omega
  · rw [hln] at q4
    obtain ⟨cc, rfl⟩ : ∃ cc, x = .sl ⟨blk, g, 0⟩ size cc := by rcases q4 with rfl | rfl <;> exact ⟨_, rfl⟩
    refine Wp.seq (Wp.seq (Wp.region (Wo.all (by kernel_rfl) ?_)))
    refine Wp.block ?_
    refine rdnum_loop (cc := cc) hlt8 hln q3 size 0 (by omega) _ (by kernel_rfl) (by kernel_rfl) (by kernel_rfl) (by kernel_rfl) (by kernel_rfl) _ ?_
    intro ts' g1 g2
    show Wp TF _ (ts', h') _
    refine Wp.seq (Wp.region ?_)
    simp [g1, g2, getL_put, len_put]
    exact ⟨v', c2, c4⟩

/-- The reader's Num where it answers none: nothing is changed. -/
theorem rdnum_fail {h : H} {b : Nat} {v : AV} {l : List UInt8} (hR : Rd h b v l) {size : Int} (he : rdE l size ≠ 0) :
    Runs TF 27 [.ptr ⟨b, 0, 0⟩, .int .i64 size] h (.tup [.int .u64 0, .int .i64 (rdE l size)]) h := by
  refine Runs.of' f27 rfl ?_
  have e0 : readyE l 0 = 0 := by simp [readyE]
  have hready := ready_run hR 0
  rw [e0] at hready
  have hsz := sized_run size h
  refine Wp.seq (Wp.region (Wo.all (by kernel_rfl) ?_))
  refine Wp.seq (Wp.seq (Wp.region (Wo.pre 1 (by kernel_rfl) (Wo.call (by kernel_rfl) (by kernel_rfl) hready (Wo.all (by kernel_rfl) ?_)))))
  refine Wp.seq (Wp.region (Wo.all (by kernel_rfl) ?_))
  refine Wp.cond false (by kernel_rfl) ?_
  refine Wp.skip ?_
  by_cases hs : 1 ≤ size ∧ size ≤ 4 ∨ size = 8
  · have hlt : (l.length : Int) < size := by
      by_cases h1 : (l.length : Int) < size
      · exact h1
      · exact absurd (by simp [rdE, hs, h1]) he
    have e4 : rdE l size = 4 := by simp [rdE, hs, hlt]
    have er : readyE l size = 4 := by
      have : ¬ size < 0 := by omega
      simp [readyE, this, hlt]
    have ht := take_fail hR (n := size) (by rw [er]; decide)
    rw [er] at ht
    rw [decide_eq_true hs] at hsz
    refine Wp.seq (Wp.seq (Wp.region (Wo.pre 1 (by kernel_rfl) (Wo.call (by kernel_rfl) (by kernel_rfl) hsz (Wo.all (by kernel_rfl) ?_)))))
    refine Wp.cond false (by kernel_rfl) ?_
    refine Wp.skip ?_
    refine Wp.seq (Wp.region (Wo.pre 2 (by kernel_rfl) (Wo.call (by kernel_rfl) (by kernel_rfl) ht (Wo.all (by kernel_rfl) ?_))))
    refine Wp.seq (Wp.seq (Wp.region (Wo.all (by kernel_rfl) ?_)))
    refine Wp.cond true (by kernel_rfl) ?_
    refine Wp.seq (Wp.region (Wo.all (by kernel_rfl) (Wp.ret ?_)))
    rw [e4]
    exact ⟨.inr rfl, rfl, by kernel_rfl⟩
  · have e1 : rdE l size = 1 := by simp [rdE, hs]
    rw [decide_eq_false hs] at hsz
    refine Wp.seq (Wp.seq (Wp.region (Wo.pre 1 (by kernel_rfl) (Wo.call (by kernel_rfl) (by kernel_rfl) hsz (Wo.all (by kernel_rfl) ?_)))))
    refine Wp.cond true (by kernel_rfl) ?_
    refine Wp.seq (Wp.region (Wo.all (by kernel_rfl) (Wp.ret ?_)))
    rw [e1]
    exact ⟨.inr rfl, rfl, by kernel_rfl⟩

/-- The reader's Vec where it answers a row. -/
theorem vec_run {h : H} {b : Nat} {v : AV} {l : List UInt8} (hR : Rd h b v l) {size n : Nat} (hs : 1 ≤ size ∧ size ≤ 3) (hbe : be (l.take size) = n) (hn : size + n ≤ l.length) (hl : l.length ≤ maxRow) :
    ∃ r h', Runs TF 29 [.ptr ⟨b, 0, 0⟩, .int .i64 size] h r h' ∧ ∃ x v', r = .tup [x, .int .i64 0] ∧ Rd h' b v' (l.drop (size + n)) ∧ Ow h.n h' x ((l.drop size).take n) ∧ ExtB b h h' ∧ SB v v' := by
  refine Runs.ofP f29 rfl ?_
  obtain ⟨l0, l1⟩ := hR.ld
  have e0 : readyE l 0 = 0 := by simp [readyE]
  have hready := ready_run hR 0
  rw [e0] at hready
  have hsz := sized_run (size : Int) h
  rw [show decide (1 ≤ (size : Int) ∧ (size : Int) ≤ 4 ∨ (size : Int) = 8) = true by simp; omega] at hsz
  obtain ⟨r, h1, c1, v1, rfl, c2, c3⟩ := rdnum_run hR (size := size) (by omega) (by omega) hl
  rw [hbe] at c1
  obtain ⟨r, h2, d1, x, v2, rfl, d2, d3, d4⟩ := take_run c2 (n := n) (by rw [List.length_drop]; omega) (by rw [List.length_drop]; omega)
  have hw : IntKind.i64.wrap (n : Int) = n := i64_fit _ (by unfold maxRow at hl; omega)
  have d1' : Runs TF 31 [.ptr ⟨b, 0, 0⟩, .int .i64 (IntKind.i64.wrap (n : Int))] h1 (.tup [x, .int .i64 0]) h2 := by rw [hw]; exact d1
  refine Wp.seq (Wp.region (Wo.all (by kernel_rfl) ?_))
  refine Wp.seq (Wp.seq (Wp.region (Wo.pre 1 (by kernel_rfl) (Wo.call (by kernel_rfl) (by kernel_rfl) hready (Wo.all (by kernel_rfl) ?_)))))
  refine Wp.seq (Wp.region (Wo.all (by kernel_rfl) ?_))
  refine Wp.cond false (by kernel_rfl) ?_
  refine Wp.skip ?_
  refine Wp.seq (Wp.seq (Wp.region (Wo.pre 1 (by kernel_rfl) (Wo.call (by kernel_rfl) (by kernel_rfl) hsz (Wo.all (by kernel_rfl) ?_)))))
  refine Wp.cond (decide ((size : Int) > 3)) (by kernel_rfl) ?_
  rw [if_neg (by simp; omega)]
  refine Wp.skip ?_
  refine Wp.seq (Wp.region (Wo.pre 3 (by kernel_rfl) (Wo.val v h (by kernel_rfl) (iop_ld (a := ⟨b, 0, 0⟩) (by kernel_rfl) l0) (Wo.all (by kernel_rfl) ?_))))
  refine Wp.seq (Wp.region (Wo.pre 2 (by kernel_rfl) (Wo.call (by kernel_rfl) (by kernel_rfl) c1 (Wo.all (by kernel_rfl) ?_))))
  refine Wp.seq (Wp.seq (Wp.region (Wo.all (by kernel_rfl) ?_)))
  refine Wp.cond false (by kernel_rfl) ?_
  refine Wp.skip ?_
  refine Wp.seq (Wp.region (Wo.pre 3 (by kernel_rfl) (Wo.call (by kernel_rfl) (by kernel_rfl) d1' (Wo.all (by kernel_rfl) ?_))))
  refine Wp.seq (Wp.seq (Wp.region (Wo.all (by kernel_rfl) ?_)))
  refine Wp.cond false (by kernel_rfl) ?_
  refine Wp.skip ?_
  refine Wp.seq (Wp.region (Wo.all (by kernel_rfl) (Wp.ret ⟨.inr rfl, .tup [x, .int .i64 0], by kernel_rfl, ?_⟩)))
  refine ⟨x, v2, rfl, by rw [← List.drop_drop]; exact d2, d3.mono c3.1.1, c3.1.trans d4.1, c3.2.trans d4.2⟩

/-- The reader's Vec where the number itself is cut off. -/
theorem vec_short {h : H} {b : Nat} {v : AV} {l : List UInt8} (hR : Rd h b v l) {size : Nat} (hs : 1 ≤ size ∧ size ≤ 3) (hn : l.length < size) :
    Runs TF 29 [.ptr ⟨b, 0, 0⟩, .int .i64 size] h (.tup [.nils, .int .i64 4]) h := by
  refine Runs.of' f29 rfl ?_
  obtain ⟨l0, l1⟩ := hR.ld
  have e0 : readyE l 0 = 0 := by simp [readyE]
  have hready := ready_run hR 0
  rw [e0] at hready
  have hsz := sized_run (size : Int) h
  rw [show decide (1 ≤ (size : Int) ∧ (size : Int) ≤ 4 ∨ (size : Int) = 8) = true by simp; omega] at hsz
  have e4 : rdE l size = 4 := by
    have h1 : (1 ≤ (size : Int) ∧ (size : Int) ≤ 4 ∨ (size : Int) = 8) := by omega
    have h2 : (l.length : Int) < (size : Int) := by omega
    simp only [rdE, h1, h2, not_true, if_true, if_false]
  have c1 := rdnum_fail hR (size := size) (by rw [e4]; decide)
  rw [e4] at c1
  refine Wp.seq (Wp.region (Wo.all (by kernel_rfl) ?_))
  refine Wp.seq (Wp.seq (Wp.region (Wo.pre 1 (by kernel_rfl) (Wo.call (by kernel_rfl) (by kernel_rfl) hready (Wo.all (by kernel_rfl) ?_)))))
  refine Wp.seq (Wp.region (Wo.all (by kernel_rfl) ?_))
  refine Wp.cond false (by kernel_rfl) ?_
  refine Wp.skip ?_
  refine Wp.seq (Wp.seq (Wp.region (Wo.pre 1 (by kernel_rfl) (Wo.call (by kernel_rfl) (by kernel_rfl) hsz (Wo.all (by kernel_rfl) ?_)))))
  refine Wp.cond (decide ((size : Int) > 3)) (by kernel_rfl) ?_
  rw [if_neg (by simp; omega)]
  refine Wp.skip ?_
  refine Wp.seq (Wp.region (Wo.pre 3 (by kernel_rfl) (Wo.val v h (by kernel_rfl) (iop_ld (a := ⟨b, 0, 0⟩) (by kernel_rfl) l0) (Wo.all (by kernel_rfl) ?_))))
  refine Wp.seq (Wp.region (Wo.pre 2 (by kernel_rfl) (Wo.call (by kernel_rfl) (by kernel_rfl) c1 (Wo.all (by kernel_rfl) ?_))))
  refine Wp.seq (Wp.seq (Wp.region (Wo.all (by kernel_rfl) ?_)))
  refine Wp.cond true (by kernel_rfl) ?_
  refine Wp.seq (Wp.region (Wo.all (by kernel_rfl) (Wp.ret ?_)))
  exact ⟨.inr rfl, rfl, by kernel_rfl⟩

/-- The reader's Vec where the row is cut off: it stands where it stood. -/
theorem vec_cut {h : H} {b : Nat} {v : AV} {l : List UInt8} (hR : Rd h b v l) {size n : Nat} (hs : 1 ≤ size ∧ size ≤ 3) (hbe : be (l.take size) = n) (hsl : size ≤ l.length) (hn : l.length < size + n) (hl : l.length ≤ maxRow) (hn63 : n < 2 ^ 63) :
    ∃ h', Runs TF 29 [.ptr ⟨b, 0, 0⟩, .int .i64 size] h (.tup [.nils, .int .i64 4]) h' ∧ Rd h' b v l ∧ ExtB b h h' := by
  obtain ⟨l0, l1⟩ := hR.ld
  have e0 : readyE l 0 = 0 := by simp [readyE]
  have hready := ready_run hR 0
  rw [e0] at hready
  have hsz := sized_run (size : Int) h
  rw [show decide (1 ≤ (size : Int) ∧ (size : Int) ≤ 4 ∨ (size : Int) = 8) = true by simp; omega] at hsz
  obtain ⟨r, h1, c1, v1, rfl, c2, c3⟩ := rdnum_run hR (size := size) (by omega) (by omega) hl
  rw [hbe] at c1
  have hw : IntKind.i64.wrap (n : Int) = n := i64_fit _ (by omega)
  have e4 : readyE (l.drop size) n = 4 := by
    have h1 : ¬ ((n : Int) < 0) := by omega
    have h2 : (((l.drop size).length : Nat) : Int) < (n : Int) := by rw [List.length_drop]; omega
    simp only [readyE, h1, h2, if_true, if_false]
  have d1 := take_fail c2 (n := n) (by rw [e4]; decide)
  rw [e4] at d1
  have d1' : Runs TF 31 [.ptr ⟨b, 0, 0⟩, .int .i64 (IntKind.i64.wrap (n : Int))] h1 (.tup [.nils, .int .i64 4]) h1 := by rw [hw]; exact d1
  have hv : v.cells = [v] ∧ v.one = true := by rcases hR.2.2.1 with ⟨rfl, _⟩ | ⟨_, _, rfl, _, _⟩ <;> exact ⟨rfl, rfl⟩
  obtain ⟨X, hX⟩ : ∃ X, X = Blk.cells 0 121 [v, .bool true] 0 false := ⟨_, rfl⟩
  have S2 : h1.st ⟨b, 0, 0⟩ v.cells = some (h1.set b X) := by
    unfold H.st
    simp only [c2.2.1, hv.1]
    rw [if_pos (by simp [hv.2])]
    rw [hX]
    rfl
  have st_eq : ∀ (x y : IX) (ρ : IX → AV), ρ x = .ptr ⟨b, 0, 0⟩ → ρ y = v → iop (.st 1 x y) ρ h1 = some (.val .undef (h1.set b X)) := by
    intro x y ρ hx hy
    simp only [iop, hx, hy, S2]
    rw [if_pos (by rw [hv.1]; rfl)]
    rfl
  refine ⟨h1.set b X, Runs.of' f29 rfl ?_, ⟨c2.1, by rw [h1.get_set, hX], ?_, hR.2.2.2⟩, c3.1.1, fun k hk hkb => by rw [h1.get_set_ne b k X hkb]; exact c3.1.2 k hk hkb⟩
  · refine Wp.seq (Wp.region (Wo.all (by kernel_rfl) ?_))
    refine Wp.seq (Wp.seq (Wp.region (Wo.pre 1 (by kernel_rfl) (Wo.call (by kernel_rfl) (by kernel_rfl) hready (Wo.all (by kernel_rfl) ?_)))))
    refine Wp.seq (Wp.region (Wo.all (by kernel_rfl) ?_))
    refine Wp.cond false (by kernel_rfl) ?_
    refine Wp.skip ?_
    refine Wp.seq (Wp.seq (Wp.region (Wo.pre 1 (by kernel_rfl) (Wo.call (by kernel_rfl) (by kernel_rfl) hsz (Wo.all (by kernel_rfl) ?_)))))
    refine Wp.cond (decide ((size : Int) > 3)) (by kernel_rfl) ?_
    rw [if_neg (by simp; omega)]
    refine Wp.skip ?_
    refine Wp.seq (Wp.region (Wo.pre 3 (by kernel_rfl) (Wo.val v h (by kernel_rfl) (iop_ld (a := ⟨b, 0, 0⟩) (by kernel_rfl) l0) (Wo.all (by kernel_rfl) ?_))))
    refine Wp.seq (Wp.region (Wo.pre 2 (by kernel_rfl) (Wo.call (by kernel_rfl) (by kernel_rfl) c1 (Wo.all (by kernel_rfl) ?_))))
    refine Wp.seq (Wp.seq (Wp.region (Wo.all (by kernel_rfl) ?_)))
    refine Wp.cond false (by kernel_rfl) ?_
    refine Wp.skip ?_
    refine Wp.seq (Wp.region (Wo.pre 3 (by kernel_rfl) (Wo.call (by kernel_rfl) (by kernel_rfl) d1' (Wo.all (by kernel_rfl) ?_))))
    refine Wp.seq (Wp.seq (Wp.region (Wo.all (by kernel_rfl) ?_)))
    refine Wp.cond true (by kernel_rfl) ?_
    refine Wp.seq (Wp.region (Wo.pre 4 (by kernel_rfl) (Wo.val .undef (h1.set b X) (by kernel_rfl) (st_eq _ _ _ (by kernel_rfl) (by kernel_rfl)) (Wo.nil ?_))))
    refine Wp.seq (Wp.region (Wo.all (by kernel_rfl) (Wp.ret ?_)))
    exact ⟨.inr rfl, rfl, by kernel_rfl⟩
  · rcases hR.2.2.1 with ⟨e1, e2⟩ | ⟨a, c, e1, e2, e3⟩
    · exact .inl ⟨e1, e2⟩
    · have hab := (hR.2.2.2 _ _ _ e1).1
      exact .inr ⟨a, c, e1, Nat.lt_of_lt_of_le e2 c3.1.1, by rw [ldn_same (h1.get_set_ne b _ X hab), ldn_same (c3.1.2 _ e2 hab)]; exact e3⟩

theorem numE_lt {n : Nat} {size : Nat} (hs : 1 ≤ size ∧ size ≤ 3) (he : numE n size = 0) : n < 16777216 := by
  have h1 : (1 ≤ (size : Int) ∧ (size : Int) ≤ 4 ∨ (size : Int) = 8) := by omega
  simp only [numE, h1, not_true, if_false, Int.toNat_natCast] at he
  split at he
  · cases he
  · rename_i h2
    have h3 : 2 ^ (8 * size) ≤ 2 ^ 24 := Nat.pow_le_pow_right (by omega) (by omega)
    omega

/-- wire.Vec, sizes 1 to 3. -/
theorem wvec_run {h : H} {x y : AV} {lx ly : List UInt8} (hx : Bs h x lx) (hy : Bs h y ly) {size : Nat} (hs : 1 ≤ size ∧ size ≤ 3) (hl : lx.length + 16777224 ≤ maxRow) (hl2 : ly.length ≤ maxRow) :
    ∃ r h', Runs TF 21 [x, y, .int .i64 size] h r h' ∧ ∃ z, r = .tup [z, .int .i64 (numE ly.length size)] ∧ Ext h h' ∧ Ow h.n h' z (if numE ly.length size = 0 then lx ++ digits ly.length size size ++ ly else []) := by
  refine Runs.ofP f21 rfl ?_
  have h64 : ly.length < 2 ^ 64 := by have := hl2; unfold maxRow at this; omega
  have hw : IntKind.u64.wrap ((ly.length : Nat) : Int) = ((ly.length : Nat) : Int) := u64_fit _ (by omega)
  obtain ⟨r, h1, c1, z1, rfl, c2, c3⟩ := num_run hx (by omega) h64 (size : Int)
  rw [← hw] at c1
  refine Wp.seq (Wp.region (Wo.all (by kernel_rfl) ?_))
  refine Wp.seq (Wp.seq (Wp.region (Wo.all (by kernel_rfl) ?_)))
  refine Wp.cond (decide ((size : Int) > 3)) (by kernel_rfl) ?_
  rw [if_neg (by simp; omega)]
  refine Wp.skip ?_
  by_cases he : numE ly.length size = 0
  · rw [he] at c1
    rw [if_pos he] at c3
    obtain ⟨z, h2, e1, e2, e3, e4⟩ := Ow.app c3 (hy.ext c2) c2.1 (by rw [List.length_append, digits_len]; have := numE_lt hs he; omega)
    have app_eq : ∀ (p q : IX) (ρ : IX → AV), ρ p = z1 → ρ q = y → iop (.app 5 1 1 false p q) ρ h1 = some (.val z h2) := by
      intro p q ρ hp hq
      simp only [iop, hp, hq, hy.notStr, BEq.rfl, if_true, e1]
    refine Wp.seq (Wp.region (Wo.pre 2 (by kernel_rfl) (Wo.val (.int .i64 ly.length) h (by kernel_rfl) (hy.len (by kernel_rfl)) (Wo.pre 2 (by kernel_rfl) (Wo.call (by kernel_rfl) (by kernel_rfl) c1 (Wo.all (by kernel_rfl) ?_))))))
    refine Wp.seq (Wp.seq (Wp.region (Wo.all (by kernel_rfl) ?_)))
    refine Wp.cond false (by kernel_rfl) ?_
    refine Wp.skip ?_
    refine Wp.seq (Wp.region (Wo.pre 2 (by kernel_rfl) (Wo.val z h2 (by kernel_rfl) (app_eq _ _ _ (by kernel_rfl) (by kernel_rfl)) (Wo.all (by kernel_rfl) (Wp.ret ⟨.inr rfl, .tup [z, .int .i64 0], by kernel_rfl, ?_⟩)))))
    refine ⟨z, by rw [he], ⟨Nat.le_trans c2.1 e3.1, fun k hk => (e3.2 k hk).trans (c2.2 k hk)⟩, ?_⟩
    rw [if_pos he]
    exact e2
  · have e3 : numE ly.length size = 3 := by
      have h1 : (1 ≤ (size : Int) ∧ (size : Int) ≤ 4 ∨ (size : Int) = 8) := by omega
      simp only [numE, h1, not_true, if_false] at he ⊢
      split at he
      · rename_i h2; rw [if_pos h2]
      · exact absurd rfl he
    rw [if_neg he] at c3
    rw [e3] at c1
    refine Wp.seq (Wp.region (Wo.pre 2 (by kernel_rfl) (Wo.val (.int .i64 ly.length) h (by kernel_rfl) (hy.len (by kernel_rfl)) (Wo.pre 2 (by kernel_rfl) (Wo.call (by kernel_rfl) (by kernel_rfl) c1 (Wo.all (by kernel_rfl) ?_))))))
    refine Wp.seq (Wp.seq (Wp.region (Wo.all (by kernel_rfl) ?_)))
    refine Wp.cond true (by kernel_rfl) ?_
    refine Wp.seq (Wp.region (Wo.all (by kernel_rfl) (Wp.ret ⟨.inr rfl, .tup [.nils, .int .i64 3], by kernel_rfl, ?_⟩)))
    refine ⟨.nils, by rw [e3], c2, ?_⟩
    rw [if_neg he]
    exact .inl ⟨rfl, rfl⟩
end Go.Det

/- The law WireSame: what is taken as a vector and laid down again is the bytes that went. -/
set_option linter.unusedVariables false
set_option linter.unusedSimpArgs false
set_option linter.unusedSectionVars false
namespace Go.Det
open Go.Proofs

theorem Rd.ext {h h' : H} {b : Nat} {v : AV} {l : List UInt8} (hR : Rd h b v l) (hx : Ext h h') : Rd h' b v l :=
  ⟨Nat.lt_of_lt_of_le hR.1 hx.1, by rw [hx.2 _ hR.1]; exact hR.2.1, hR.2.2.1.ext hx, hR.2.2.2⟩

theorem Bs.lt {h : H} {v : AV} {l : List UInt8} (hb : Bs h v l) {a : AA} {n : Nat} {c : Cp} (e : v = .sl a n c) : a.b < h.n := by
  rcases hb with ⟨rfl, rfl⟩ | ⟨a', c', rfl, h1, h2⟩
  · simp at e
  · simp only [AV.sl.injEq] at e; rw [← e.1]; exact h1

/-- The digits of a number that bytes are. -/
theorem be_digits : ∀ (l : List UInt8), digits (be l) l.length l.length = l := by
  intro l
  have key : ∀ (r l : List UInt8) (k : Nat), k = l.length → ∀ m, m = (l ++ r).length → digits (be (l ++ r)) m k = l := by
    suffices hs : ∀ (N : Nat) (r l : List UInt8), l.length = N → ∀ m, m = (l ++ r).length → digits (be (l ++ r)) m N = l from fun r l k hk m hm => by rw [hk]; exact hs _ r l rfl m hm
    intro N
    induction N with
    | zero => intro r l hk m hm; rw [List.length_eq_zero_iff] at hk; subst hk; rfl
    | succ N ih =>
      intro r l0 hk m hm
      obtain ⟨l, c, rfl⟩ : ∃ l c, l0 = l ++ [c] := ⟨l0.dropLast, l0.getLast (by intro e; simp [e] at hk), (List.dropLast_concat_getLast _).symm⟩
      have hk : l.length = N := by simpa using hk
      subst hk
      rw [digits_succ, List.append_assoc, ih ([c] ++ r) l rfl m (by rw [hm]; simp)]
      congr 1
      congr 1
      unfold dig b8
      have hm2 : m - 1 - l.length = r.length := by rw [hm]; simp only [List.length_append, List.length_cons, List.length_nil]; omega
      rw [hm2]
      have hb : be (l ++ ([c] ++ r)) = (be l * 256 + c.toNat) * 256 ^ r.length + be r := by
        have fold : ∀ (r : List UInt8) (a : Nat), r.foldl (fun a c => a * 256 + c.toNat) a = a * 256 ^ r.length + be r := by
          intro r
          induction r with
          | nil => intro a; simp [be]
          | cons d r ih2 =>
            intro a
            rw [List.foldl_cons, ih2]
            have : be (d :: r) = d.toNat * 256 ^ r.length + be r := by
              show List.foldl _ (0 * 256 + d.toNat) r = _
              rw [ih2]; simp
            rw [this, Nat.add_mul, List.length_cons, Nat.pow_succ]
            have : a * 256 * 256 ^ r.length = a * (256 ^ r.length * 256) := by rw [Nat.mul_assoc, Nat.mul_comm 256]
            omega
        show List.foldl _ 0 (l ++ ([c] ++ r)) = _
        rw [List.foldl_append, List.foldl_append]
        show List.foldl _ (be l * 256 + c.toNat) r = _
        rw [fold]
      rw [hb]
      have hlt := be_lt r
      have e8 : (2 : Int) ^ (8 * r.length) = ((256 ^ r.length : Nat) : Int) := by
        rw [Int.natCast_pow, Int.pow_mul]; rfl
      rw [e8, Int.fdiv_eq_ediv_of_nonneg _ (Int.natCast_nonneg _), ← Int.natCast_ediv]
      have hpos : 0 < 256 ^ r.length := Nat.pos_of_ne_zero (by simp)
      rw [Nat.add_comm, Nat.add_mul_div_right _ _ hpos, Nat.div_eq_of_lt hlt]
      have hc := c.toNat_lt
      have : ((((0 + (be l * 256 + c.toNat) : Nat) : Int) % 256).toNat) = c.toNat := by omega
      rw [this]
      simp
  have := key [] l l.length rfl l.length (by simp)
  rwa [List.append_nil] at this

end Go.Det

/- What is signed for a head: the program's bytes and the reference's. -/
set_option linter.unusedVariables false
set_option linter.unusedSimpArgs false
namespace Go.Det
open Go.Proofs
attribute [local simp] skip_iff ret_iff exit_iff seq_iff block_iff thenQ_normal thenQ_ret thenQ_exit thenQ_goto blockQ_normal blockQ_ret blockQ_exit blockQ_goto condQ_bool cond_iff region_iff wo_nil ansQ_val ansQ_call wo_cons wo_guard wanted put setL getL ev iop binop binInt shInt asI retV resOf unop getL_put len_put draw_iff wd_nil wd_quiet wd_act holds_nil holds_cons
attribute [local congr] ansQ_congr condQ_congr

theorem Bs.two (h : H) (c d : UInt8) : Ow h.n (h.new (.cells 0 5 [.int .u8 c.toNat, .int .u8 d.toNat] 0 false)) (.sl ⟨h.n, 0, 0⟩ 2 (.ex 2)) [c, d] :=
  .inr ⟨h.n, 0, Nat.le_refl _, by simp, by rw [h.get_new]; rfl, .inr rfl⟩

end Go.Det

/- The reference's writers, any size; the program's Vec, any size. -/
set_option linter.unusedVariables false
set_option linter.unusedSimpArgs false
set_option linter.unusedSectionVars false
namespace Go.Det
open Go.Proofs
attribute [local irreducible] Wp Wo Wd iop ev slots quiets wanted put

def vecE (n : Nat) (size : Int) : Int := if 1 ≤ size ∧ size ≤ 3 then numE n size else 1

theorem vecE_num {n : Nat} {size : Int} (hs : ¬ 3 < size) : vecE n size = numE n size := by
  unfold vecE
  split
  · rfl
  · rename_i h1
    have h2 : ¬ (1 ≤ size ∧ size ≤ 4 ∨ size = 8) := by omega
    simp only [numE, h2, not_false_eq_true, if_true]

/-- wire.Vec, any size. -/
theorem wvec_any {h : H} {x y : AV} {lx ly : List UInt8} (hx : Bs h x lx) (hy : Bs h y ly) (size : Int) (hl : lx.length + 16777224 ≤ maxRow) (hl2 : ly.length ≤ maxRow) :
    ∃ r h', Runs TF 21 [x, y, .int .i64 size] h r h' ∧ ∃ z, r = .tup [z, .int .i64 (vecE ly.length size)] ∧ Ext h h' ∧ Ow h.n h' z (if vecE ly.length size = 0 then lx ++ digits ly.length size.toNat size.toNat ++ ly else []) := by
  by_cases hs : 1 ≤ size ∧ size ≤ 3
  · obtain ⟨m, rfl⟩ : ∃ m : Nat, size = m := ⟨size.toNat, by omega⟩
    have e : vecE ly.length (m : Int) = numE ly.length m := vecE_num (by omega)
    rw [e]
    exact wvec_run hx hy (size := m) (by omega) hl hl2
  · have e1 : vecE ly.length size = 1 := by simp only [vecE, hs, if_false]
    rw [e1]
    refine Runs.ofP f21 rfl ?_
    refine Wp.seq ?_
    refine Wp.region ?_
    refine Wo.pre 8 (by kernel_rfl) ?_
    refine Wo.nil ?_
    refine Wp.seq ?_
    refine Wp.seq ?_
    refine Wp.region ?_
    refine Wo.pre 8 (by kernel_rfl) ?_
    refine Wo.nil ?_
    refine Wp.cond (decide (size > 3)) (by kernel_rfl) ?_
    by_cases h3 : 3 < size
    · rw [if_pos (by simpa using h3)]
      refine Wp.seq ?_
      refine Wp.region ?_
      refine Wo.pre 8 (by kernel_rfl) ?_
      refine Wo.nil ?_
      exact Wp.ret ⟨.inr rfl, .tup [.nils, .int .i64 1], (by kernel_rfl), .nils, rfl, Ext.refl h, .inl ⟨rfl, rfl⟩⟩
    · rw [if_neg (by simpa using h3)]
      have hw : IntKind.u64.wrap ((ly.length : Nat) : Int) = ((ly.length : Nat) : Int) := u64_fit _ (by unfold maxRow at hl2; omega)
      obtain ⟨r, h1, c1, z1, rfl, c2, c3⟩ := num_run hx (by omega) (n := ly.length) (by unfold maxRow at hl2; omega) size
      have en : numE ly.length size = 1 := by rw [← vecE_num h3, e1]
      rw [← hw, en] at c1
      rw [en] at c3
      refine Wp.skip ?_
      refine Wp.seq ?_
      refine Wp.region ?_
      refine Wo.pre 1 (by kernel_rfl) ?_
      refine Wo.pre 1 (by kernel_rfl) ?_
      refine Wo.val (.int .i64 ly.length) h (by kernel_rfl) (hy.len (by kernel_rfl)) ?_
      refine Wo.pre 1 (by kernel_rfl) ?_
      refine Wo.pre 1 (by kernel_rfl) ?_
      refine Wo.call (by kernel_rfl) (by kernel_rfl) (c1) ?_
      refine Wo.pre 8 (by kernel_rfl) ?_
      refine Wo.nil ?_
      refine Wp.seq ?_
      refine Wp.seq ?_
      refine Wp.region ?_
      refine Wo.pre 8 (by kernel_rfl) ?_
      refine Wo.nil ?_
      refine Wp.cond true (by kernel_rfl) ?_
      refine Wp.seq ?_
      refine Wp.region ?_
      refine Wo.pre 8 (by kernel_rfl) ?_
      refine Wo.nil ?_
      exact Wp.ret ⟨.inr rfl, .tup [.nils, .int .i64 1], (by kernel_rfl), .nils, rfl, c2, .inl ⟨rfl, rfl⟩⟩

end Go.Det

/- Rows that are spoiled, byte by byte. -/
set_option linter.unusedVariables false
set_option linter.unusedSimpArgs false
set_option linter.unusedSectionVars false
namespace Go.Det
open Go.Proofs
attribute [local simp] skip_iff ret_iff exit_iff seq_iff block_iff thenQ_normal thenQ_ret thenQ_exit thenQ_goto blockQ_normal blockQ_ret blockQ_exit blockQ_goto condQ_bool cond_iff region_iff wo_nil ansQ_val ansQ_call wo_cons wo_guard wanted put setL getL ev iop binop binInt shInt asI retV resOf unop
attribute [local congr] ansQ_congr condQ_congr Wo_congr Wp_congr

end Go.Det

/- The law WireLays: numbers and vectors are laid down as the document says; what is handed in stays. -/
set_option linter.unusedVariables false
set_option linter.unusedSimpArgs false
set_option linter.unusedSectionVars false
namespace Go.Det
open Go.Proofs
attribute [local irreducible] Wp Wo Wd iop ev slots quiets wanted put

end Go.Det

/- The loops of the reference's reader: a number out of bytes. -/
set_option linter.unusedVariables false
set_option linter.unusedSimpArgs false
set_option linter.unusedSectionVars false
namespace Go.Det
open Go.Proofs
attribute [local simp] skip_iff ret_iff exit_iff seq_iff block_iff thenQ_normal thenQ_ret thenQ_exit thenQ_goto blockQ_normal blockQ_ret blockQ_exit blockQ_goto condQ_bool cond_iff region_iff wo_nil ansQ_val ansQ_call wo_cons wo_guard wanted put setL getL ev iop binop binInt shInt asI retV resOf unop
attribute [local congr] ansQ_congr condQ_congr Wo_congr Wp_congr

/-- One cell of a row. -/
theorem ldn_at {h : H} {a : AA} {m : Nat} {c : List AV} (hc : h.ldn a m = some c) {i : Nat} {v : AV} (hv : c[i]? = some v) : h.ldg ⟨a.b, a.g, a.o + i⟩ none = some v := by
  unfold H.ldn at hc
  cases hr : h.row a with
  | none => rw [hr] at hc; simp at hc
  | some c0 =>
    rw [hr] at hc
    simp only [cut] at hc
    split at hc
    · simp only [Option.some.injEq] at hc
      subst hc
      simp only [H.ldg, H.ld, row_drop hr i, getL_eq]
      rw [List.getElem?_take] at hv
      split at hv
      · rw [List.getElem?_drop] at hv; exact hv
      · simp at hv
    · simp at hc

theorem Bs.at {h : H} {a : AA} {c : Cp} {l : List UInt8} (hb : Bs h (.sl a l.length c) l) {i : Nat} {b : UInt8} (hi : l[i]? = some b) : h.ldg ⟨a.b, a.g, a.o + i⟩ none = some (.int .u8 b.toNat) := by
  rcases hb with ⟨e, _⟩ | ⟨a', c', e, _, h2⟩
  · simp at e
  · simp only [AV.sl.injEq] at e
    obtain ⟨rfl, _, rfl⟩ := e
    exact ldn_at h2 (by simp [bytesAV, hi])

end Go.Det

/- The reference's reader; the program's reader, all its ways. -/
set_option linter.unusedVariables false
set_option linter.unusedSimpArgs false
set_option linter.unusedSectionVars false
namespace Go.Det
open Go.Proofs
attribute [local irreducible] Wp Wo Wd iop ev slots quiets wanted put

def rdV (l : List UInt8) (size : Int) : Nat := if rdE l size = 0 then be (l.take size.toNat) else 0
def rdL (l : List UInt8) (size : Int) : List UInt8 := if rdE l size = 0 then l.drop size.toNat else l
def vE (l : List UInt8) (size : Int) : Int := if ¬ (1 ≤ size ∧ size ≤ 3) then 1 else if (l.length : Int) < size then 4 else if l.length < size.toNat + be (l.take size.toNat) then 4 else 0
def vN (l : List UInt8) (size : Int) : Nat := size.toNat + be (l.take size.toNat)
def vX (l : List UInt8) (size : Int) : List UInt8 := if vE l size = 0 then (l.drop size.toNat).take (be (l.take size.toNat)) else []
def vL (l : List UInt8) (size : Int) : List UInt8 := if vE l size = 0 then l.drop (vN l size) else l
theorem rdnum_any {h : H} {b : Nat} {v : AV} {l : List UInt8} (hR : Rd h b v l) (size : Int) (hl : l.length ≤ maxRow) :
    ∃ h' v', Runs TF 27 [.ptr ⟨b, 0, 0⟩, .int .i64 size] h (.tup [.int .u64 (rdV l size : Nat), .int .i64 (rdE l size)]) h' ∧ Rd h' b v' (rdL l size) ∧ ExtB b h h' ∧ SB v v' := by
  by_cases he : rdE l size = 0
  · have h1 : (1 ≤ size ∧ size ≤ 4 ∨ size = 8) ∧ ¬ (l.length : Int) < size := by
      unfold rdE at he
      split at he
      · cases he
      · rename_i h1
        split at he
        · cases he
        · rename_i h2; exact ⟨Classical.not_not.1 h1, h2⟩
    obtain ⟨m, rfl⟩ : ∃ m : Nat, size = m := ⟨size.toNat, by omega⟩
    obtain ⟨r, h', c1, v', rfl, c2, c3⟩ := rdnum_run hR (size := m) (by omega) (by omega) hl
    refine ⟨h', v', ?_, ?_, c3⟩
    · rw [he, rdV, if_pos he]; exact c1
    · rw [rdL, if_pos he]; exact c2
  · refine ⟨h, v, ?_, ?_, ⟨Nat.le_refl _, fun _ _ _ => rfl⟩, SB.refl _⟩
    · rw [rdV, if_neg he]; exact rdnum_fail hR he
    · rw [rdL, if_neg he]; exact hR

theorem vec_bad {h : H} {b : Nat} {v : AV} {l : List UInt8} (hR : Rd h b v l) {size : Int} (hs : ¬ (1 ≤ size ∧ size ≤ 3)) :
    Runs TF 29 [.ptr ⟨b, 0, 0⟩, .int .i64 size] h (.tup [.nils, .int .i64 1]) h := by
  refine Runs.of' f29 rfl ?_
  have e0 : readyE l 0 = 0 := by simp [readyE]
  have hready := ready_run hR 0
  rw [e0] at hready
  have hsz := sized_run size h
  by_cases h1 : 1 ≤ size ∧ size ≤ 4 ∨ size = 8
  · rw [decide_eq_true h1] at hsz
    refine Wp.seq ?_
    refine Wp.region ?_
    refine Wo.pre 8 (by kernel_rfl) ?_
    refine Wo.nil ?_
    refine Wp.seq ?_
    refine Wp.seq ?_
    refine Wp.region ?_
    refine Wo.pre 1 (by kernel_rfl) ?_
    refine Wo.call (by kernel_rfl) (by kernel_rfl) (hready) ?_
    refine Wo.pre 8 (by kernel_rfl) ?_
    refine Wo.nil ?_
    refine Wp.seq ?_
    refine Wp.region ?_
    refine Wo.pre 8 (by kernel_rfl) ?_
    refine Wo.nil ?_
    refine Wp.cond false (by kernel_rfl) ?_
    refine Wp.skip ?_
    refine Wp.seq ?_
    refine Wp.seq ?_
    refine Wp.region ?_
    refine Wo.pre 1 (by kernel_rfl) ?_
    refine Wo.call (by kernel_rfl) (by kernel_rfl) (hsz) ?_
    refine Wo.pre 8 (by kernel_rfl) ?_
    refine Wo.nil ?_
    refine Wp.cond (decide (size > 3)) (by kernel_rfl) ?_
    rw [if_pos (by simp; omega)]
    refine Wp.seq ?_
    refine Wp.region ?_
    refine Wo.pre 8 (by kernel_rfl) ?_
    refine Wo.nil ?_
    exact Wp.ret ⟨.inr rfl, rfl, (by kernel_rfl)⟩
  · rw [decide_eq_false h1] at hsz
    refine Wp.seq ?_
    refine Wp.region ?_
    refine Wo.pre 8 (by kernel_rfl) ?_
    refine Wo.nil ?_
    refine Wp.seq ?_
    refine Wp.seq ?_
    refine Wp.region ?_
    refine Wo.pre 1 (by kernel_rfl) ?_
    refine Wo.call (by kernel_rfl) (by kernel_rfl) (hready) ?_
    refine Wo.pre 8 (by kernel_rfl) ?_
    refine Wo.nil ?_
    refine Wp.seq ?_
    refine Wp.region ?_
    refine Wo.pre 8 (by kernel_rfl) ?_
    refine Wo.nil ?_
    refine Wp.cond false (by kernel_rfl) ?_
    refine Wp.skip ?_
    refine Wp.seq ?_
    refine Wp.seq ?_
    refine Wp.region ?_
    refine Wo.pre 1 (by kernel_rfl) ?_
    refine Wo.call (by kernel_rfl) (by kernel_rfl) (hsz) ?_
    refine Wo.pre 8 (by kernel_rfl) ?_
    refine Wo.nil ?_
    refine Wp.cond true (by kernel_rfl) ?_
    refine Wp.seq ?_
    refine Wp.region ?_
    refine Wo.pre 8 (by kernel_rfl) ?_
    refine Wo.nil ?_
    exact Wp.ret ⟨.inr rfl, rfl, (by kernel_rfl)⟩

theorem vec_any {h : H} {b : Nat} {v : AV} {l : List UInt8} (hR : Rd h b v l) (size : Int) (hl : l.length ≤ maxRow) :
    ∃ h' x v', Runs TF 29 [.ptr ⟨b, 0, 0⟩, .int .i64 size] h (.tup [x, .int .i64 (vE l size)]) h' ∧ Rd h' b v' (vL l size) ∧ Ow h.n h' x (vX l size) ∧ ExtB b h h' ∧ SB v v' := by
  by_cases hs : 1 ≤ size ∧ size ≤ 3
  · obtain ⟨m, rfl⟩ : ∃ m : Nat, size = m := ⟨size.toNat, by omega⟩
    have hs' : 1 ≤ m ∧ m ≤ 3 := by omega
    by_cases h1 : l.length < m
    · have he : vE l m = 4 := by
        have h1' : (l.length : Int) < (m : Int) := by omega
        simp only [vE, hs, and_self, h1', not_true, if_false, if_true]
      refine ⟨h, .nils, v, by rw [he]; exact vec_short hR hs' h1, ?_, ?_, ⟨Nat.le_refl _, fun _ _ _ => rfl⟩, SB.refl _⟩
      · rw [vL, if_neg (by rw [he]; decide)]; exact hR
      · rw [vX, if_neg (by rw [he]; decide)]; exact .inl ⟨rfl, rfl⟩
    · have h1' : ¬ (l.length : Int) < (m : Int) := by omega
      by_cases h2 : l.length < m + be (l.take m)
      · have he : vE l m = 4 := by
          simp only [vE, hs, and_self, h1', not_true, if_false, Int.toNat_natCast, h2, if_true]
        have hbl : be (l.take m) < 2 ^ 63 := by
          have := be_lt (l.take m)
          rw [List.length_take, Nat.min_eq_left (by omega)] at this
          have h2 : 256 ^ m ≤ 256 ^ 3 := Nat.pow_le_pow_right (by omega) hs'.2
          omega
        obtain ⟨h2', d1, d2, d3⟩ := vec_cut hR hs' rfl (by omega) h2 hl hbl
        refine ⟨h2', .nils, v, by rw [he]; exact d1, ?_, ?_, d3, SB.refl _⟩
        · rw [vL, if_neg (by rw [he]; decide)]; exact d2
        · rw [vX, if_neg (by rw [he]; decide)]; exact .inl ⟨rfl, rfl⟩
      · have he : vE l m = 0 := by
          simp only [vE, hs, and_self, h1', not_true, if_false, Int.toNat_natCast, h2]
        obtain ⟨r, h', c1, x, v', rfl, c2, c3, c4⟩ := vec_run hR hs' rfl (by omega) hl
        refine ⟨h', x, v', by rw [he]; exact c1, ?_, ?_, c4⟩
        · rw [vL, if_pos he, vN, Int.toNat_natCast]; exact c2
        · rw [vX, if_pos he, Int.toNat_natCast]; exact c3
  · have he : vE l size = 1 := by simp only [vE, hs, not_false_eq_true, if_true]
    refine ⟨h, .nils, v, by rw [he]; exact vec_bad hR hs, ?_, ?_, ⟨Nat.le_refl _, fun _ _ _ => rfl⟩, SB.refl _⟩
    · rw [vL, if_neg (by rw [he]; decide)]; exact hR
    · rw [vX, if_neg (by rw [he]; decide)]; exact .inl ⟨rfl, rfl⟩

/-- The reference's reader. -/
def RRd (h : H) (b : Nat) (w : AV) (l : List UInt8) : Prop := b < h.n ∧ h.get b = some (.cells 0 51 [w] 0 false) ∧ Bs h w l ∧ Cok w ∧ ∀ a n c, w = .sl a n c → a.b ≠ b

theorem RRd.ld {h : H} {b : Nat} {w : AV} {l : List UInt8} (hR : RRd h b w l) : h.ldg ⟨b, 0, 0⟩ none = some w := by
  simp [H.ldg, H.ld, H.row, hR.2.1, getL]

/-- What is left is written. -/
theorem RRd.st {h : H} {b : Nat} {w v' : AV} {l l' : List UInt8} (hR : RRd h b w l) (hb : Bs h v' l') (hc : Cok v') (hne : ∀ a n c, v' = .sl a n c → a.b ≠ b) :
    ∃ h', h.st ⟨b, 0, 0⟩ [v'] = some h' ∧ RRd h' b v' l' ∧ ExtB b h h' := by
  have hp := hb.parts
  refine ⟨h.set b (.cells 0 51 [v'] 0 false), ?_, ⟨hR.1, by rw [h.get_set], ?_, hc, hne⟩, Nat.le_refl _, fun k _ hkb => h.get_set_ne b k _ hkb⟩
  · unfold H.st
    simp only [hR.2.1]
    rw [if_pos (by simp [hp.2.1])]
    rfl
  · rcases hb with ⟨e1, e2⟩ | ⟨a, c, e1, e2, e3⟩
    · exact .inl ⟨e1, e2⟩
    · exact .inr ⟨a, c, e1, e2, by rw [ldn_same (h.get_set_ne b _ _ (hne _ _ _ e1))]; exact e3⟩

end Go.Det

/- The law WireReads: rows of calls of a reader are answered as the document says. -/
set_option linter.unusedVariables false
set_option linter.unusedSimpArgs false
set_option linter.unusedSectionVars false
namespace Go.Det
open Go.Proofs
attribute [local irreducible] Wp Wo Wd iop ev slots quiets wanted put

theorem iop_ia {x y : IX} {ρ : IX → AV} {h : H} {a : AA} {n : Nat} {c : Cp} {s i : Nat} (hx : ρ x = .sl a n c) (hy : ρ y = .int .i64 i) (hi : i < n) : iop (.ia s x y) ρ h = some (.val (.ptr ⟨a.b, a.g, a.o + i * s⟩) h) := by
  have h1 : (i : Int) < n := by omega
  simp [iop, hx, hy, asI, h1, hi]

theorem iop_stA {x y : IX} {ρ : IX → AV} {h h' : H} {a : AA} {cs : List AV} {n : Nat} (hx : ρ x = .ptr a) (hy : ρ y = .agg cs) (hn : cs.length = n) (hs : h.st a cs = some h') : iop (.st n x y) ρ h = some (.val .undef h') := by
  have e : (AV.agg cs).cells = cs := rfl
  simp only [iop, hx, hy, e, hn, BEq.rfl, if_true, hs, Option.map_some]

theorem Rd.keep {h h' : H} {rb : Nat} {v : AV} {L : List UInt8} (hR : Rd h rb v L) (hn : h.n ≤ h'.n) (h1 : h'.get rb = h.get rb) (h2 : ∀ a n c, v = .sl a n c → h'.get a.b = h.get a.b) : Rd h' rb v L := by
  refine ⟨Nat.lt_of_lt_of_le hR.1 hn, by rw [h1]; exact hR.2.1, ?_, hR.2.2.2⟩
  rcases hR.2.2.1 with h0 | ⟨a, c, e, e2, e3⟩
  · exact .inl h0
  · exact .inr ⟨a, c, e, Nat.lt_of_lt_of_le e2 hn, by rw [ldn_same (h2 _ _ _ e)]; exact e3⟩
theorem RRd.keep {h h' : H} {rb : Nat} {v : AV} {L : List UInt8} (hR : RRd h rb v L) (hn : h.n ≤ h'.n) (h1 : h'.get rb = h.get rb) (h2 : ∀ a n c, v = .sl a n c → h'.get a.b = h.get a.b) : RRd h' rb v L := by
  refine ⟨Nat.lt_of_lt_of_le hR.1 hn, by rw [h1]; exact hR.2.1, ?_, hR.2.2.2⟩
  rcases hR.2.2.1 with h0 | ⟨a, c, e, e2, e3⟩
  · exact .inl h0
  · exact .inr ⟨a, c, e, Nat.lt_of_lt_of_le e2 hn, by rw [ldn_same (h2 _ _ _ e)]; exact e3⟩
theorem vL_len (l : List UInt8) (n : Int) : (vL l n).length ≤ l.length := by unfold vL; split <;> simp
theorem vX_len (l : List UInt8) (n : Int) : (vX l n).length ≤ l.length := by unfold vX; split <;> simp [List.length_take, List.length_drop]; omega
/-- What holds at each call: both readers have the same row left. -/
structure Two (lo rb sb : Nat) (acts : List (Int × Int)) (ab : AA) (h : H) (L : List UInt8) : Prop where
  ex : ∃ v w, Rd h rb v L ∧ RRd h sb w L ∧ (∀ a n c, v = .sl a n c → a.b < rb) ∧ (∀ a n c, w = .sl a n c → rb < a.b ∧ a.b < sb)
  lt : rb < sb
  lob : lo ≤ rb
  len : L.length ≤ maxRow
  act : ∀ (j : Nat) (x : Int × Int), acts[j]? = some x → h.ldn ⟨ab.b, ab.g, ab.o + j * 2⟩ 2 = some [.int .i64 x.1, .int .i64 x.2]
  abn : acts ≠ [] → ab.b < lo

theorem Two.next {lo rb sb : Nat} {acts : List (Int × Int)} {ab : AA} {h h' : H} {L L' : List UInt8} {v w v' w' : AV} (hT : Two lo rb sb acts ab h L) (hR : Rd h rb v L) (hS : RRd h sb w L) (hv : ∀ a n c, v = .sl a n c → a.b < rb) (hw : ∀ a n c, w = .sl a n c → rb < a.b ∧ a.b < sb)
    (hR' : Rd h' rb v' L') (hS' : RRd h' sb w' L') (sv : SB v v') (sw : SB w w') (keep : ∀ b, b < h.n → b ≠ rb → b ≠ sb → h'.get b = h.get b) (hl : L'.length ≤ L.length) : Two lo rb sb acts ab h' L' := by
  refine ⟨⟨v', w', hR', hS', ?_, ?_⟩, hT.lt, hT.lob, Nat.le_trans hl hT.len, ?_, hT.abn⟩
  · intro a n c e
    obtain ⟨a0, n0, c0, e0, q⟩ := sv a n c e
    rw [← q]; exact hv _ _ _ e0
  · intro a n c e
    obtain ⟨a0, n0, c0, e0, q⟩ := sw a n c e
    rw [← q]; exact hw _ _ _ e0
  · intro j x hj
    have hne : acts ≠ [] := by intro e; rw [e] at hj; simp at hj
    have h1 := hT.abn hne
    have h2 := hT.lob
    have h3 := hT.lt
    have h4 := hR.1
    have hk : h'.get (AA.b ⟨ab.b, ab.g, ab.o + j * 2⟩) = h.get (AA.b ⟨ab.b, ab.g, ab.o + j * 2⟩) := keep ab.b (by omega) (by omega) (by omega)
    rw [ldn_same hk]
    exact hT.act j x hj

end Go.Det

/- The law WireReads, from its head. -/
set_option linter.unusedVariables false
set_option linter.unusedSimpArgs false
set_option linter.unusedSectionVars false
namespace Go.Det
open Go.Proofs
attribute [local irreducible] Wp Wo Wd iop ev slots quiets wanted put

theorem iop_lenS {x : IX} {ρ : IX → AV} {h : H} {v : AV} {n : Nat} (hx : ρ x = v) (hv : (v = .nils ∧ n = 0) ∨ ∃ a c, v = .sl a n c) : iop (.len false x) ρ h = some (.val (.int .i64 n) h) := by
  rcases hv with ⟨rfl, rfl⟩ | ⟨a, c, rfl⟩ <;> simp [iop, hx]

end Go.Det

/- The law WireBack: things, their sizes, how they are laid down and read. -/
set_option linter.unusedVariables false
set_option linter.unusedSimpArgs false
set_option linter.unusedSectionVars false
namespace Go.Det
open Go.Proofs
attribute [local irreducible] Wp Wo Wd iop ev slots quiets wanted put

/-- A row of cells of its own. -/
def OwC (e sz lo : Nat) (h : H) (v : AV) (cs : List AV) (n : Nat) : Prop := (v = .nils ∧ cs = [] ∧ n = 0) ∨ ∃ b g, lo ≤ b ∧ b < h.n ∧ h.get b = some (.cells g e cs 0 false) ∧ v = .sl ⟨b, g, 0⟩ n (.op sz) ∧ cs.length = n * sz

theorem OwC.ext {e sz lo n : Nat} {h h' : H} {v : AV} {cs : List AV} (ho : OwC e sz lo h v cs n) (hn : h.n ≤ h'.n) (hk : ∀ b g c, lo ≤ b → b < h.n → h.get b = some (.cells g e c 0 false) → h'.get b = h.get b) : OwC e sz lo h' v cs n := by
  rcases ho with h0 | ⟨b, g, h1, h2, h3, h4⟩
  · exact .inl h0
  · exact .inr ⟨b, g, h1, Nat.lt_of_lt_of_le h2 hn, by rw [hk b _ _ h1 h2 h3]; exact h3, h4⟩

theorem Ow.keep {lo : Nat} {h h' : H} {v : AV} {l : List UInt8} (ho : Ow lo h v l) (hn : h.n ≤ h'.n) (hk : ∀ b g c, lo ≤ b → b < h.n → h.get b = some (.cells g 5 c 0 false) → h'.get b = h.get b) : Ow lo h' v l := by
  rcases ho with h0 | ⟨b, g, h1, h2, h3, h4⟩
  · exact .inl h0
  · exact .inr ⟨b, g, h1, Nat.lt_of_lt_of_le h2 hn, by rw [hk b _ _ h1 h2 h3]; exact h3, h4⟩

theorem iop_appG {x y : IX} {ρ : IX → AV} {h h' : H} {v w z : AV} {e sz by_ : Nat} (hx : ρ x = v) (hy : ρ y = w) (hs : isStrV w = false) (ha : append h e sz by_ v w = some (.val z h')) : iop (.app e sz by_ false x y) ρ h = some (.val z h') := by
  simp only [iop, hx, hy, hs, BEq.rfl, if_true, ha]

/-- One more element behind. -/
theorem OwC.app {e sz lo n bytes : Nat} {h : H} {v : AV} {cs new : List AV} (ho : OwC e (sz + 1) lo h v cs n) (hlo : lo ≤ h.n) (hs : new.length = sz + 1) (h1 : new.all AV.one = true) (hf : fits (n + 1) bytes = true) (hb : n < 2 ^ 62) (H1 : H) (hH1 : H1 = h.new (.cells 0 e new 0 false)) :
    ∃ v' h', append H1 e (sz + 1) bytes v (.sl ⟨h.n, 0, 0⟩ 1 (.ex 1)) = some (.val v' h') ∧ OwC e (sz + 1) lo h' v' (cs ++ new) (n + 1) ∧ h.n ≤ h'.n ∧ ∀ b, b < h.n → (b < lo ∨ ∀ g c, h.get b ≠ some (.cells g e c 0 false)) → h'.get b = h.get b := by
  have g1 : H1.get h.n = some (.cells 0 e new 0 false) := by rw [hH1]; exact h.get_new _
  have n1 : H1.n = h.n + 1 := by rw [hH1]; rfl
  have hne : ∀ b, b ≠ h.n → H1.get b = h.get b := fun b hb => by rw [hH1]; exact h.get_new_ne b _ hb
  have hld : H1.ldn ⟨h.n, 0, 0⟩ (1 * (sz + 1)) = some new := by
    unfold H.ldn H.row
    simp only [g1, BEq.rfl, Bool.not_false, Bool.true_or, Bool.and_self, if_true, Nat.one_mul]
    rw [← hs]
    exact cut_all _
  unfold append
  simp only [srcCells, hld, Option.map_some]
  rcases ho with ⟨rfl, rfl, rfl⟩ | ⟨b, g, q1, q2, q3, rfl, q5⟩
  · rw [Nat.zero_add] at hf
    refine ⟨.sl ⟨H1.n, 0, 0⟩ 1 (.op (sz + 1)), H1.new (.cells 0 e new 0 false), ?_, .inr ⟨H1.n, 0, by omega, by show _ < H1.n + 1; omega, by rw [H1.get_new]; rfl, rfl, by simp [hs]⟩, by show h.n ≤ H1.n + 1; omega, fun b hb _ => ?_⟩
    · simp [hf, h1]
    · rw [H1.get_new_ne b _ (by omega), hne b (by omega)]
  · have hbn : b ≠ h.n := by omega
    have q3' : H1.get b = some (.cells g e cs 0 false) := by rw [hne b hbn]; exact q3
    refine ⟨.sl ⟨b, g + 1, 0⟩ (n + 1) (.op (sz + 1)), H1.set b (.cells (g + 1) e (cs ++ new) 0 false), ?_, .inr ⟨b, g + 1, q1, by show b < H1.n; omega, H1.get_set b _, rfl, by rw [List.length_append, q5, hs, Nat.succ_mul]⟩, by show h.n ≤ H1.n; omega, fun b' hb' hne' => ?_⟩
    · have hle : n + 1 ≤ 9223372036854775807 := by omega
      simp [hf, h1, q3', q5, hle]
    · have : b' ≠ b := by
        rintro rfl
        rcases hne' with h0 | h0
        · omega
        · exact h0 _ _ q3
      rw [H1.get_set_ne b b' _ this, hne b' (by omega)]

/-- A thing: whether a vector, how great, its number, its bytes. -/
structure Th where
  vec : Bool
  size : Int
  n : Nat
  b : List UInt8

def szOf (vec : Bool) (size : Int) : Nat := if vec then 1 + (IntKind.u64.wrap size).toNat % 3 else match (IntKind.u64.wrap size).toNat % 5 with
  | 0 => 1
  | 1 => 2
  | 2 => 3
  | 3 => 4
  | _ => 8
def Th.sz (t : Th) : Nat := szOf t.vec t.size

def Th.enc (t : Th) : List UInt8 := if t.vec = true then digits t.b.length t.sz t.sz ++ t.b else digits t.n t.sz t.sz
def Th.encE (t : Th) : Int := if t.vec = true then numE t.b.length t.sz else numE t.n t.sz

theorem be_dig {n s : Nat} (hn : n < 256 ^ s) : ∀ k, k ≤ s → be (digits n s k) = n / 256 ^ (s - k) := by
  intro k
  induction k with
  | zero => intro _; rw [Nat.sub_zero, Nat.div_eq_of_lt hn]; rfl
  | succ k ih =>
    intro hk
    rw [digits_succ, be_snoc, ih (by omega), dig_eq, UInt8.toNat_ofNat']
    have e1 : s - k = (s - 1 - k) + 1 := by omega
    have e2 : s - (k + 1) = s - 1 - k := by omega
    rw [e1, e2, Nat.pow_succ, ← Nat.div_div_eq_div_mul]
    omega
theorem be_dig' {n s : Nat} (hn : n < 256 ^ s) : be (digits n s s) = n := by
  rw [be_dig hn s (Nat.le_refl _)]; simp

/-! What is kept. -/
def encs (ks : List (Th × AV)) : List UInt8 := (ks.map fun p => p.1.enc).flatten
def thC (p : Th × AV) : List AV := [.bool p.1.vec, .int .i64 p.1.size, .int .u64 p.1.n, p.2]
def kcells (ks : List (Th × AV)) : List AV := (ks.map thC).flatten
def ecells (ks : List (Th × AV)) : List AV := (List.range ks.length).map fun j => .int .i64 (encs (ks.take (j + 1))).length
structure J1 (h0 h : H) (al ke en : AV) (ks : List (Th × AV)) : Prop where
  ext : Ext h0 h
  al : Ow h0.n h al (encs ks)
  ke : OwC 57 4 h0.n h ke (kcells ks) ks.length
  en : OwC 3 1 h0.n h en (ecells ks) ks.length
  ok : ∀ p ∈ ks, Bs h0 p.2 p.1.b ∧ p.1.b.length ≤ 300 ∧ p.1.n < 2 ^ 64 ∧ p.1.encE = 0
  len : (encs ks).length ≤ 311 * ks.length
end Go.Det

/- Entries: whether they may be. -/
set_option linter.unusedVariables false
set_option linter.unusedSimpArgs false
set_option linter.unusedSectionVars false
namespace Go.Det
open Go.Proofs
attribute [local irreducible] Wp Wo Wd iop ev slots quiets wanted put

theorem iop_cmp {op : BinOp} {x y : IX} {ρ : IX → AV} {h : H} {k : IntKind} {a b : Int} (c : Bool) (hx : ρ x = .int k a) (hy : ρ y = .int k b) (hop : op = .lss ∨ op = .leq ∨ op = .gtr ∨ op = .geq ∨ op = .eql ∨ op = .neq) (e : binInt op k a b = some (.bool c)) : iop (.bin op x y) ρ h = some (.val (.bool c) h) := by
  rcases hop with rfl | rfl | rfl | rfl | rfl | rfl <;> simp [iop, binop, hx, hy, e]

/-- A chain: rows of bytes. -/
structure Ch (h : H) (v : AV) (xs : List (AV × List UInt8)) : Prop where
  row : (v = .nils ∧ xs = []) ∨ ∃ a c, v = .sl a xs.length c ∧ a.b < h.n ∧ h.ldn a xs.length = some (xs.map (·.1))
  el : ∀ p ∈ xs, Bs h p.1 p.2 ∧ Cok p.1
  cok : Cok v

theorem Ch.ext {h h' : H} {v : AV} {xs : List (AV × List UInt8)} (c : Ch h v xs) (hx : Ext h h') : Ch h' v xs := by
  refine ⟨c.row.imp id ?_, fun p hp => ⟨(c.el p hp).1.ext hx, (c.el p hp).2⟩, c.cok⟩
  rintro ⟨a, q, h1, h2, h3⟩
  exact ⟨a, q, h1, Nat.lt_of_lt_of_le h2 hx.1, by rw [ldn_same (hx.2 _ h2)]; exact h3⟩
theorem Ch.lenS {h : H} {v : AV} {xs : List (AV × List UInt8)} (c : Ch h v xs) : (v = .nils ∧ xs.length = 0) ∨ ∃ a q, v = .sl a xs.length q := by
  rcases c.row with ⟨h1, h2⟩ | ⟨a, q, h1, _⟩
  · exact .inl ⟨h1, by rw [h2]; rfl⟩
  · exact .inr ⟨a, q, h1⟩
theorem Ch.parts {h : H} {v : AV} {xs : List (AV × List UInt8)} (c : Ch h v xs) : v.cells = [v] ∧ v.one = true ∧ isStrV v = false := by
  rcases c.row with ⟨rfl, _⟩ | ⟨a, q, rfl, _⟩ <;> exact ⟨rfl, rfl, rfl⟩
theorem Ch.at {h : H} {v : AV} {xs : List (AV × List UInt8)} (c : Ch h v xs) {i : Nat} {p : AV × List UInt8} (hp : xs[i]? = some p) : ∃ a q, v = .sl a xs.length q ∧ h.ldg ⟨a.b, a.g, a.o + i * 1⟩ none = some p.1 := by
  rcases c.row with ⟨_, rfl⟩ | ⟨a, q, h1, h2, h3⟩
  · simp at hp
  · exact ⟨a, q, h1, by rw [Nat.mul_one]; exact ldn_at h3 (by simp [hp])⟩

def mayC (c : List UInt8) : Bool := decide (1 ≤ c.length ∧ c.length ≤ 512)
def mayE (xs : List (AV × List UInt8)) : Bool := decide (1 ≤ xs.length ∧ xs.length ≤ 4) && xs.all fun p => mayC p.2

set_option maxHeartbeats 1000000 in
theorem may_loop {h : H} {v : AV} {xs : List (AV × List UInt8)} (hc : Ch h v xs) (hlen : xs.length < 2 ^ 62) :
    ∀ (k i : Nat), i + k = xs.length → ∀ (ts : List AV), ts.length = 31 → getL ts 16 = some v → getL ts 17 = some (.int .i64 xs.length) → getL ts 18 = some (.int .i64 i) →
      ∀ (Q : Ex → St → Prop), ((xs.drop i).all (fun p => mayC p.2) = false → ∀ ts', ts'.length = 31 → getL ts' 2 = some (.bool false) → Q .ret (ts', h)) →
        ((xs.drop i).all (fun p => mayC p.2) = true → ∀ ts', ts'.length = 31 → Q (.exit 0) (ts', h)) → Wp TF (.loop l49_1) (ts, h) Q := by
  intro k
  induction k with
  | zero =>
    intro i hi ts t0 t16 t17 t18 Q hbad hgood
    obtain rfl : i = xs.length := by omega
    refine Wp.loop ?_
    rw [laid_eq t0 [(16, v), (17, .int .i64 xs.length), (18, .int .i64 xs.length)] (by simp [t16, t17, t18])]
    unfold l49_1
    refine Wp.seq ?_
    refine Wp.region ?_
    refine Wo.val (.bool false) h (by kernel_rfl) (iop_cmp (op := .lss) (k := .i64) (a := xs.length) (b := xs.length) false (by kernel_rfl) (by kernel_rfl) (by simp) (by simp [binInt])) ?_
    refine Wo.nil ?_
    refine Wp.seq ?_
    refine Wp.cond false (by kernel_rfl) ?_
    exact Wp.exit (hgood (by simp) _ (by kernel_rfl))
  | succ k ih =>
    intro i hi ts t0 t16 t17 t18 Q hbad hgood
    have hlt : i < xs.length := by omega
    obtain ⟨p, hp⟩ : ∃ p, xs[i]? = some p := ⟨xs[i], List.getElem?_eq_getElem hlt⟩
    have hdrop : xs.drop i = p :: xs.drop (i + 1) := by
      rw [List.drop_eq_getElem_cons hlt]
      congr 1
      exact (List.getElem?_eq_some_iff.1 hp).2
    obtain ⟨a, q, rfl, hld⟩ := hc.at hp
    have hB := (hc.el p (List.mem_of_getElem? hp)).1
    have wi : IntKind.i64.wrap ((i : Int) + 1) = ((i + 1 : Nat) : Int) := by rw [i64_fit _ (by omega)]; omega
    refine Wp.loop ?_
    rw [laid_eq t0 [(16, .sl a xs.length q), (17, .int .i64 xs.length), (18, .int .i64 i)] (by simp [t16, t17, t18])]
    unfold l49_1
    by_cases h1 : p.2.length < 1
    · have hf : (xs.drop i).all (fun p => mayC p.2) = false := by rw [hdrop, List.all_cons]; simp [mayC]; omega
      refine Wp.seq ?_
      refine Wp.region ?_
      refine Wo.val (.bool true) h (by kernel_rfl) (iop_cmp (op := .lss) (k := .i64) (a := i) (b := xs.length) true (by kernel_rfl) (by kernel_rfl) (by simp) (by simp [binInt]; omega)) ?_
      refine Wo.nil ?_
      refine Wp.seq ?_
      refine Wp.cond true (by kernel_rfl) ?_
      refine Wp.skip ?_
      refine Wp.seq ?_
      refine Wp.block ?_
      refine Wp.seq ?_
      refine Wp.region ?_
      refine Wo.val _ h (by kernel_rfl) (iop_ia (a := a) (n := xs.length) (c := q) (i := i) (by kernel_rfl) (by kernel_rfl) hlt) ?_
      refine Wo.val p.1 h (by kernel_rfl) (iop_ld (a := ⟨a.b, a.g, a.o + i * 1⟩) (by kernel_rfl) hld) ?_
      refine Wo.pre 1 (by kernel_rfl) ?_
      refine Wo.nil ?_
      refine Wp.seq ?_
      refine Wp.region ?_
      refine Wo.pre 1 (by kernel_rfl) ?_
      refine Wo.val (.int .i64 p.2.length) h (by kernel_rfl) ((hB.len (by kernel_rfl))) ?_
      refine Wo.val (.bool true) h (by kernel_rfl) (iop_cmp (op := .lss) (k := .i64) (a := p.2.length) (b := 1) true (by kernel_rfl) (by kernel_rfl) (by simp) (by simp [binInt]; omega)) ?_
      refine Wo.pre 1 (by kernel_rfl) ?_
      refine Wo.pre 1 (by kernel_rfl) ?_
      refine Wo.pre 1 (by kernel_rfl) ?_
      refine Wo.pre 1 (by kernel_rfl) ?_
      refine Wo.pre 1 (by kernel_rfl) ?_
      refine Wo.nil ?_
      refine Wp.cond true (by kernel_rfl) ?_
      refine Wp.seq ?_
      refine Wp.region ?_
      refine Wo.pre 1 (by kernel_rfl) ?_
      refine Wo.nil ?_
      exact Wp.ret (hbad hf _ (by kernel_rfl) (by kernel_rfl))
    · by_cases h2 : p.2.length > 512
      · have hf : (xs.drop i).all (fun p => mayC p.2) = false := by rw [hdrop, List.all_cons]; simp [mayC]; omega
        refine Wp.seq ?_
        refine Wp.region ?_
        refine Wo.val (.bool true) h (by kernel_rfl) (iop_cmp (op := .lss) (k := .i64) (a := i) (b := xs.length) true (by kernel_rfl) (by kernel_rfl) (by simp) (by simp [binInt]; omega)) ?_
        refine Wo.nil ?_
        refine Wp.seq ?_
        refine Wp.cond true (by kernel_rfl) ?_
        refine Wp.skip ?_
        refine Wp.seq ?_
        refine Wp.block ?_
        refine Wp.seq ?_
        refine Wp.region ?_
        refine Wo.val _ h (by kernel_rfl) (iop_ia (a := a) (n := xs.length) (c := q) (i := i) (by kernel_rfl) (by kernel_rfl) hlt) ?_
        refine Wo.val p.1 h (by kernel_rfl) (iop_ld (a := ⟨a.b, a.g, a.o + i * 1⟩) (by kernel_rfl) hld) ?_
        refine Wo.pre 1 (by kernel_rfl) ?_
        refine Wo.nil ?_
        refine Wp.seq ?_
        refine Wp.region ?_
        refine Wo.pre 1 (by kernel_rfl) ?_
        refine Wo.val (.int .i64 p.2.length) h (by kernel_rfl) ((hB.len (by kernel_rfl))) ?_
        refine Wo.val (.bool false) h (by kernel_rfl) (iop_cmp (op := .lss) (k := .i64) (a := p.2.length) (b := 1) false (by kernel_rfl) (by kernel_rfl) (by simp) (by simp [binInt]; omega)) ?_
        refine Wo.pre 1 (by kernel_rfl) ?_
        refine Wo.pre 1 (by kernel_rfl) ?_
        refine Wo.val (.int .i64 p.2.length) h (by kernel_rfl) ((hB.len (by kernel_rfl))) ?_
        refine Wo.val (.bool true) h (by kernel_rfl) (iop_cmp (op := .gtr) (k := .i64) (a := p.2.length) (b := 512) true (by kernel_rfl) (by kernel_rfl) (by simp) (by simp [binInt]; omega)) ?_
        refine Wo.pre 1 (by kernel_rfl) ?_
        refine Wo.nil ?_
        refine Wp.cond true (by kernel_rfl) ?_
        refine Wp.seq ?_
        refine Wp.region ?_
        refine Wo.pre 1 (by kernel_rfl) ?_
        refine Wo.nil ?_
        exact Wp.ret (hbad hf _ (by kernel_rfl) (by kernel_rfl))
      · have hf : (xs.drop i).all (fun p => mayC p.2) = (xs.drop (i + 1)).all (fun p => mayC p.2) := by
          have : mayC p.2 = true := by simp [mayC]; omega
          rw [hdrop, List.all_cons, this, Bool.true_and]
        rw [hf] at hbad hgood
        refine Wp.seq ?_
        refine Wp.region ?_
        refine Wo.val (.bool true) h (by kernel_rfl) (iop_cmp (op := .lss) (k := .i64) (a := i) (b := xs.length) true (by kernel_rfl) (by kernel_rfl) (by simp) (by simp [binInt]; omega)) ?_
        refine Wo.nil ?_
        refine Wp.seq ?_
        refine Wp.cond true (by kernel_rfl) ?_
        refine Wp.skip ?_
        refine Wp.seq ?_
        refine Wp.block ?_
        refine Wp.seq ?_
        refine Wp.region ?_
        refine Wo.val _ h (by kernel_rfl) (iop_ia (a := a) (n := xs.length) (c := q) (i := i) (by kernel_rfl) (by kernel_rfl) hlt) ?_
        refine Wo.val p.1 h (by kernel_rfl) (iop_ld (a := ⟨a.b, a.g, a.o + i * 1⟩) (by kernel_rfl) hld) ?_
        refine Wo.pre 1 (by kernel_rfl) ?_
        refine Wo.nil ?_
        refine Wp.seq ?_
        refine Wp.region ?_
        refine Wo.pre 1 (by kernel_rfl) ?_
        refine Wo.val (.int .i64 p.2.length) h (by kernel_rfl) ((hB.len (by kernel_rfl))) ?_
        refine Wo.val (.bool false) h (by kernel_rfl) (iop_cmp (op := .lss) (k := .i64) (a := p.2.length) (b := 1) false (by kernel_rfl) (by kernel_rfl) (by simp) (by simp [binInt]; omega)) ?_
        refine Wo.pre 1 (by kernel_rfl) ?_
        refine Wo.pre 1 (by kernel_rfl) ?_
        refine Wo.val (.int .i64 p.2.length) h (by kernel_rfl) ((hB.len (by kernel_rfl))) ?_
        refine Wo.val (.bool false) h (by kernel_rfl) (iop_cmp (op := .gtr) (k := .i64) (a := p.2.length) (b := 512) false (by kernel_rfl) (by kernel_rfl) (by simp) (by simp [binInt]; omega)) ?_
        refine Wo.pre 1 (by kernel_rfl) ?_
        refine Wo.nil ?_
        refine Wp.cond false (by kernel_rfl) ?_
        refine Wp.skip ?_
        refine Wp.region ?_
        refine Wo.pre 1 (by kernel_rfl) ?_
        refine Wo.pre 1 (by kernel_rfl) ?_
        refine Wo.nil ?_
        exact ih (i + 1) (by omega) _ (by kernel_rfl) (by kernel_rfl) (by kernel_rfl) (by rw [← wi]; kernel_rfl) Q hbad hgood

/-- An entry as a value. -/
def entV (t : Nat) (v : AV) : AV := .agg [.int .u64 t, v]

set_option maxHeartbeats 1000000 in
theorem may_run {h : H} {v : AV} {xs : List (AV × List UInt8)} (hc : Ch h v xs) (hlen : xs.length < 2 ^ 62) (t : Nat) : ∃ r h', Runs TF 49 [entV t v] h r h' ∧ r = .bool (mayE xs) ∧ Ext h h' := by
  refine Runs.ofP f49 rfl ?_
  have hall : ([.int .u64 t, v] : List AV).all AV.one = true := by
    have o1 := hc.parts.2.1
    have o3 : ∀ k i, (AV.int k i).one = true := fun _ _ => rfl
    simp [o1, o3]
  obtain ⟨H1, hH1⟩ : ∃ H1, H1 = h.new (.cells 0 70 [.int .u64 t, v] 0 false) := ⟨_, rfl⟩
  have X1 : Ext h H1 := by rw [hH1]; exact Ext.new _ _
  have enew : ∀ {x : IX} {ρ : IX → AV}, ρ x = .agg [.int .u64 t, v] → iop (.new 70 x) ρ h = some (.val (.ptr ⟨h.n, 0, 0⟩) H1) := fun hx => by rw [hH1]; exact iop_new hx hall
  have g1 : H1.get h.n = some (.cells 0 70 [.int .u64 t, v] 0 false) := by rw [hH1]; exact h.get_new _
  have L1 : H1.ldg ⟨h.n, 0, 1⟩ none = some v := by simp [H.ldg, H.ld, H.row, g1, getL]
  have hc1 := hc.ext X1
  unfold entV
  by_cases h1 : xs.length < 1
  · have e : mayE xs = false := by simp [mayE]; omega
    refine Wp.seq ?_
    refine Wp.region ?_
    refine Wo.val _ _ (by kernel_rfl) (enew (by kernel_rfl)) ?_
    refine Wo.pre 1 (by kernel_rfl) ?_
    refine Wo.nil ?_
    refine Wp.seq ?_
    refine Wp.seq ?_
    refine Wp.region ?_
    refine Wo.pre 1 (by kernel_rfl) ?_
    refine Wo.val v H1 (by kernel_rfl) (iop_ld (a := ⟨h.n, 0, 1⟩) (by kernel_rfl) L1) ?_
    refine Wo.val (.int .i64 xs.length) H1 (by kernel_rfl) (iop_lenS (v := v) (by kernel_rfl) hc.lenS) ?_
    refine Wo.val (.bool true) H1 (by kernel_rfl) (iop_cmp (op := .lss) (k := .i64) (a := xs.length) (b := 1) true (by kernel_rfl) (by kernel_rfl) (by simp) (by simp [binInt]; omega)) ?_
    refine Wo.pre 1 (by kernel_rfl) ?_
    refine Wo.pre 1 (by kernel_rfl) ?_
    refine Wo.pre 1 (by kernel_rfl) ?_
    refine Wo.pre 1 (by kernel_rfl) ?_
    refine Wo.pre 1 (by kernel_rfl) ?_
    refine Wo.pre 1 (by kernel_rfl) ?_
    refine Wo.nil ?_
    refine Wp.cond true (by kernel_rfl) ?_
    refine Wp.seq ?_
    refine Wp.region ?_
    refine Wo.pre 1 (by kernel_rfl) ?_
    refine Wo.nil ?_
    exact Wp.ret ⟨.inr rfl, .bool false, (by kernel_rfl), by rw [e], X1⟩
  · by_cases h2 : xs.length > 4
    · have e : mayE xs = false := by simp [mayE]; omega
      refine Wp.seq ?_
      refine Wp.region ?_
      refine Wo.val _ _ (by kernel_rfl) (enew (by kernel_rfl)) ?_
      refine Wo.pre 1 (by kernel_rfl) ?_
      refine Wo.nil ?_
      refine Wp.seq ?_
      refine Wp.seq ?_
      refine Wp.region ?_
      refine Wo.pre 1 (by kernel_rfl) ?_
      refine Wo.val v H1 (by kernel_rfl) (iop_ld (a := ⟨h.n, 0, 1⟩) (by kernel_rfl) L1) ?_
      refine Wo.val (.int .i64 xs.length) H1 (by kernel_rfl) (iop_lenS (v := v) (by kernel_rfl) hc.lenS) ?_
      refine Wo.val (.bool false) H1 (by kernel_rfl) (iop_cmp (op := .lss) (k := .i64) (a := xs.length) (b := 1) false (by kernel_rfl) (by kernel_rfl) (by simp) (by simp [binInt]; omega)) ?_
      refine Wo.pre 1 (by kernel_rfl) ?_
      refine Wo.pre 1 (by kernel_rfl) ?_
      refine Wo.val v H1 (by kernel_rfl) (iop_ld (a := ⟨h.n, 0, 1⟩) (by kernel_rfl) L1) ?_
      refine Wo.val (.int .i64 xs.length) H1 (by kernel_rfl) (iop_lenS (v := v) (by kernel_rfl) hc.lenS) ?_
      refine Wo.val (.bool true) H1 (by kernel_rfl) (iop_cmp (op := .gtr) (k := .i64) (a := xs.length) (b := 4) true (by kernel_rfl) (by kernel_rfl) (by simp) (by simp [binInt]; omega)) ?_
      refine Wo.pre 1 (by kernel_rfl) ?_
      refine Wo.nil ?_
      refine Wp.cond true (by kernel_rfl) ?_
      refine Wp.seq ?_
      refine Wp.region ?_
      refine Wo.pre 1 (by kernel_rfl) ?_
      refine Wo.nil ?_
      exact Wp.ret ⟨.inr rfl, .bool false, (by kernel_rfl), by rw [e], X1⟩
    · have e : mayE xs = xs.all fun p => mayC p.2 := by simp [mayE]; omega
      refine Wp.seq ?_
      refine Wp.region ?_
      refine Wo.val _ _ (by kernel_rfl) (enew (by kernel_rfl)) ?_
      refine Wo.pre 1 (by kernel_rfl) ?_
      refine Wo.nil ?_
      refine Wp.seq ?_
      refine Wp.seq ?_
      refine Wp.region ?_
      refine Wo.pre 1 (by kernel_rfl) ?_
      refine Wo.val v H1 (by kernel_rfl) (iop_ld (a := ⟨h.n, 0, 1⟩) (by kernel_rfl) L1) ?_
      refine Wo.val (.int .i64 xs.length) H1 (by kernel_rfl) (iop_lenS (v := v) (by kernel_rfl) hc.lenS) ?_
      refine Wo.val (.bool false) H1 (by kernel_rfl) (iop_cmp (op := .lss) (k := .i64) (a := xs.length) (b := 1) false (by kernel_rfl) (by kernel_rfl) (by simp) (by simp [binInt]; omega)) ?_
      refine Wo.pre 1 (by kernel_rfl) ?_
      refine Wo.pre 1 (by kernel_rfl) ?_
      refine Wo.val v H1 (by kernel_rfl) (iop_ld (a := ⟨h.n, 0, 1⟩) (by kernel_rfl) L1) ?_
      refine Wo.val (.int .i64 xs.length) H1 (by kernel_rfl) (iop_lenS (v := v) (by kernel_rfl) hc.lenS) ?_
      refine Wo.val (.bool false) H1 (by kernel_rfl) (iop_cmp (op := .gtr) (k := .i64) (a := xs.length) (b := 4) false (by kernel_rfl) (by kernel_rfl) (by simp) (by simp [binInt]; omega)) ?_
      refine Wo.pre 1 (by kernel_rfl) ?_
      refine Wo.nil ?_
      refine Wp.cond false (by kernel_rfl) ?_
      refine Wp.skip ?_
      refine Wp.seq ?_
      refine Wp.seq ?_
      refine Wp.region ?_
      refine Wo.pre 1 (by kernel_rfl) ?_
      refine Wo.val v H1 (by kernel_rfl) (iop_ld (a := ⟨h.n, 0, 1⟩) (by kernel_rfl) L1) ?_
      refine Wo.val (.int .i64 xs.length) H1 (by kernel_rfl) (iop_lenS (v := v) (by kernel_rfl) hc.lenS) ?_
      refine Wo.pre 1 (by kernel_rfl) ?_
      refine Wo.nil ?_
      refine Wp.block ?_
      refine may_loop hc1 hlen xs.length 0 (by omega) _ (by kernel_rfl) (by kernel_rfl) (by kernel_rfl) (by kernel_rfl) _ ?_ ?_
      · intro hf ts' d0 d2
        rw [laid_eq d0 [(2, .bool false)] (by simp [d2])]
        rw [List.drop_zero] at hf
        exact ⟨.inr rfl, .bool false, (by kernel_rfl), by rw [e, hf], X1⟩
      · intro hf ts' d0
        rw [List.drop_zero] at hf
        rw [laid_eq d0 [] (by simp)]
        refine Wp.seq ?_
        refine Wp.region ?_
        refine Wo.pre 8 (by kernel_rfl) ?_
        refine Wo.nil ?_
        exact Wp.ret ⟨.inr rfl, .bool true, (by kernel_rfl), by rw [e, hf], X1⟩
end Go.Det

/- Entries: the reference's May; numbers and vectors. -/
set_option linter.unusedVariables false
set_option linter.unusedSimpArgs false
set_option linter.unusedSectionVars false
namespace Go.Det
open Go.Proofs
attribute [local irreducible] Wp Wo Wd iop ev slots quiets wanted put

theorem number_run {b : AV} {l : List UInt8} {h : H} (hb : Bs h b l) (hl : l.length + 8 ≤ maxRow) {n : Nat} (hn : n < 2 ^ 64) (size : Int) :
    ∃ x h', Runs TF 76 [b, .int .u64 n, .int .i64 size] h x h' ∧ Ext h h' ∧ Ow h.n h' x (if numE n size = 0 then l ++ digits n size.toNat size.toNat else []) := by
  obtain ⟨v, h', c1, x, rfl, c2, c3⟩ := num_run hb hl hn size
  refine Runs.ofP f76 rfl ?_
  refine Wp.seq ?_
  refine Wp.region ?_
  refine Wo.pre 8 (by kernel_rfl) ?_
  refine Wo.nil ?_
  refine Wp.seq ?_
  refine Wp.region ?_
  refine Wo.pre 3 (by kernel_rfl) ?_
  refine Wo.call (by kernel_rfl) (by kernel_rfl) (c1) ?_
  refine Wo.pre 8 (by kernel_rfl) ?_
  refine Wo.nil ?_
  refine Wp.seq ?_
  refine Wp.region ?_
  refine Wo.pre 8 (by kernel_rfl) ?_
  refine Wo.nil ?_
  exact Wp.ret ⟨.inr rfl, x, (by kernel_rfl), c2, c3⟩
end Go.Det

/- Entries: leaves, what is signed. -/
set_option linter.unusedVariables false
set_option linter.unusedSimpArgs false
set_option linter.unusedSectionVars false
namespace Go.Det
open Go.Proofs
attribute [local irreducible] Wp Wo Wd iop ev slots quiets wanted put

/-- An entry, handed in: its own block. -/
theorem ent_new {h : H} {v : AV} {xs : List (AV × List UInt8)} (hc : Ch h v xs) (t : Nat) : ∃ H1, Ext h H1 ∧ h.n < H1.n ∧ (∀ {x : IX} {ρ : IX → AV}, ρ x = entV t v → iop (.new 70 x) ρ h = some (.val (.ptr ⟨h.n, 0, 0⟩) H1)) ∧
    ∀ q, Ext H1 q → q.ldg ⟨h.n, 0, 0⟩ none = some (.int .u64 t) ∧ q.ldg ⟨h.n, 0, 1⟩ none = some v ∧ q.ldg ⟨h.n, 0, 0⟩ (some 2) = some (entV t v) := by
  have hall : ([.int .u64 t, v] : List AV).all AV.one = true := by
    have o1 := hc.parts.2.1
    have o3 : ∀ k i, (AV.int k i).one = true := fun _ _ => rfl
    simp [o1, o3]
  refine ⟨h.new (.cells 0 70 [.int .u64 t, v] 0 false), Ext.new _ _, by simp, fun hx => iop_new hx hall, fun q hq => ?_⟩
  have g1 : q.get h.n = some (.cells 0 70 [.int .u64 t, v] 0 false) := by rw [hq.2 _ (by simp)]; exact h.get_new _
  simp [H.ldg, H.ld, H.ldn, H.row, g1, getL, cut, entV]

def c0 (xs : List (AV × List UInt8)) : List UInt8 := (xs.headD (.nils, [])).2
def leafB (t : Nat) (c : List UInt8) : List UInt8 := [0, 0] ++ digits t 8 8 ++ [0, 0] ++ (digits c.length 3 3 ++ c) ++ [0, 0]
def leafE (xs : List (AV × List UInt8)) : Int := if mayE xs = true then 0 else 1
def leafX (t : Nat) (xs : List (AV × List UInt8)) : List UInt8 := if mayE xs = true then leafB t (c0 xs) else []

theorem mayE_first {xs : List (AV × List UInt8)} (hm : mayE xs = true) : ∃ p, xs[0]? = some p ∧ c0 xs = p.2 ∧ 1 ≤ p.2.length ∧ p.2.length ≤ 512 ∧ xs.length ≤ 4 := by
  unfold mayE at hm
  simp only [Bool.and_eq_true, decide_eq_true_eq, List.all_eq_true] at hm
  obtain ⟨⟨h1, h4⟩, h2⟩ := hm
  cases xs with
  | nil => simp at h1
  | cons p xs =>
    have := h2 p (by simp)
    simp only [mayC, decide_eq_true_eq] at this
    exact ⟨p, rfl, rfl, this.1, this.2, h4⟩

theorem vecE_small {n : Nat} (hn : n < 65536) {s : Nat} (hs : s = 2 ∨ s = 3) : vecE n (s : Nat) = 0 := by
  have h1 : 1 ≤ (s : Int) ∧ (s : Int) ≤ 3 := by omega
  have h2 : (1 ≤ (s : Int) ∧ (s : Int) ≤ 4 ∨ (s : Int) = 8) := by omega
  have h3 : ¬ 2 ^ (8 * s) ≤ n := by rcases hs with rfl | rfl <;> omega
  unfold vecE
  rw [if_pos h1]
  unfold numE
  rw [if_neg (fun q => q h2), Int.toNat_natCast, if_neg h3]
theorem numE_8 {n : Nat} (hn : n < 2 ^ 64) : numE n 8 = 0 := by
  simp [numE]; omega
end Go.Det

/- Entries: the reference's leaves, what is signed. -/
set_option linter.unusedVariables false
set_option linter.unusedSimpArgs false
set_option linter.unusedSectionVars false
namespace Go.Det
open Go.Proofs
attribute [local irreducible] Wp Wo Wd iop ev slots quiets wanted put

end Go.Det

/- Entries: lists of certificates. -/
set_option linter.unusedVariables false
set_option linter.unusedSimpArgs false
set_option linter.unusedSectionVars false
namespace Go.Det
open Go.Proofs
attribute [local irreducible] Wp Wo Wd iop ev slots quiets wanted put

def certB (c : List UInt8) : List UInt8 := digits c.length 3 3 ++ c
def inner (xs : List (AV × List UInt8)) : List UInt8 := (xs.map fun p => certB p.2).flatten
def listB (xs : List (AV × List UInt8)) : List UInt8 := digits (inner xs).length 3 3 ++ inner xs
def Small (xs : List (AV × List UInt8)) : Prop := xs.length ≤ 4 ∧ ∀ p ∈ xs, p.2.length ≤ 512

theorem inner_snoc (xs : List (AV × List UInt8)) (p : AV × List UInt8) : inner (xs ++ [p]) = inner xs ++ certB p.2 := by simp [inner]
theorem inner_len : ∀ (xs : List (AV × List UInt8)), (∀ p ∈ xs, p.2.length ≤ 512) → (inner xs).length ≤ 515 * xs.length
  | [], _ => by simp [inner]
  | p :: xs, h => by
    have h1 := inner_len xs (fun q hq => h q (by simp [hq]))
    have h2 := h p (by simp)
    have : inner (p :: xs) = certB p.2 ++ inner xs := by simp [inner]
    rw [this, List.length_append]
    simp only [certB, List.length_append, digits_len, List.length_cons]
    omega
theorem take_step {α : Type} {xs : List α} {i : Nat} {p : α} (hp : xs[i]? = some p) : xs.take (i + 1) = xs.take i ++ [p] := by rw [List.take_add_one, hp]; rfl

/-- The closure: a certificate is laid behind. -/
theorem add_run {h : H} {ib : Nat} {inV c : AV} {l cl : List UInt8} (hg : h.get ib = some (.cells 0 22 [inV] 0 false)) (hib : ib < h.n) (hi : Bs h inV l) (hc : Bs h c cl) (hcl : cl.length < 65536) (hl : l.length + 16777224 ≤ maxRow) :
    ∃ r h', Runs TF 87 [c, .ptr ⟨ib, 0, 0⟩] h r h' ∧ ∃ z, h'.get ib = some (.cells 0 22 [z] 0 false) ∧ Ow h.n h' z (l ++ certB cl) ∧ ExtB ib h h' := by
  have hmx : 200000000000000 = maxRow := rfl
  obtain ⟨r1, H1, c1, z, rfl, X1, o1⟩ := wvec_any hi hc (3 : Nat) hl (by omega)
  rw [vecE_small hcl (.inr rfl)] at c1
  rw [if_pos (vecE_small hcl (.inr rfl)), List.append_assoc] at o1
  have o1 : Ow h.n H1 z (l ++ certB cl) := o1
  have hp := o1.bs.parts
  have g1 : H1.get ib = some (.cells 0 22 [inV] 0 false) := by rw [X1.2 _ hib]; exact hg
  have L0 : h.ldg ⟨ib, 0, 0⟩ none = some inV := by simp [H.ldg, H.ld, H.row, hg, getL]
  obtain ⟨H2, hH2⟩ : ∃ H2, H2 = H1.set ib (.cells 0 22 [z] 0 false) := ⟨_, rfl⟩
  have st : H1.st ⟨ib, 0, 0⟩ [z] = some H2 := by
    unfold H.st
    simp only [g1]
    rw [if_pos (by simp [hp.2.1]), hH2]
    rfl
  have n1 := X1.1
  refine Runs.ofP f87 rfl ?_
  refine Wp.seq ?_
  refine Wp.region ?_
  refine Wo.val inV h (by kernel_rfl) (iop_ld (a := ⟨ib, 0, 0⟩) (by kernel_rfl) L0) ?_
  refine Wo.pre 1 (by kernel_rfl) ?_
  refine Wo.call (by kernel_rfl) (by kernel_rfl) (c1) ?_
  refine Wo.pre 8 (by kernel_rfl) ?_
  refine Wo.nil ?_
  refine Wp.seq ?_
  refine Wp.region ?_
  refine Wo.pre 8 (by kernel_rfl) ?_
  refine Wo.nil ?_
  refine Wp.cond true (by kernel_rfl) ?_
  refine Wp.region ?_
  refine Wo.pre 1 (by kernel_rfl) ?_
  refine Wo.val .undef H2 (by kernel_rfl) (iop_st1 (a := ⟨ib, 0, 0⟩) (v := z) (by kernel_rfl) (by kernel_rfl) hp.1 st) ?_
  refine Wo.nil ?_
  refine ⟨.inl rfl, .tup [], (by kernel_rfl), z, by rw [hH2, H1.get_set], ?_, by rw [hH2]; exact n1, fun b hb hne => by rw [hH2, H1.get_set_ne _ b _ hne]; exact X1.2 b hb⟩
  rcases o1 with h0 | ⟨b, g, q1, q2, q3, q4⟩
  · exact .inl h0
  · exact .inr ⟨b, g, q1, by rw [hH2]; exact q2, by rw [hH2, H1.get_set_ne _ b _ (by omega)]; exact q3, q4⟩

set_option maxHeartbeats 1000000 in
theorem list_loop {h0 : H} {v : AV} {xs : List (AV × List UInt8)} {ib : Nat} (hc : Ch h0 v xs) (hs : Small xs) (hib0 : h0.n ≤ ib) :
    ∀ (k i : Nat), i + k = xs.length → ∀ (h : H) (inV : AV) (ts : List AV), Ext h0 h → ib < h.n → h.get ib = some (.cells 0 22 [inV] 0 false) → Bs h inV (inner (xs.take i)) → ts.length = 26 → getL ts 3 = some (.ptr ⟨ib, 0, 0⟩) → getL ts 4 = some (.fn (.func 87) [] [.ptr ⟨ib, 0, 0⟩]) → getL ts 10 = some v → getL ts 11 = some (.int .i64 xs.length) → getL ts 12 = some (.int .i64 i) →
      ∀ (Q : Ex → St → Prop), (∀ ts' h' inV, ts'.length = 26 → Ext h0 h' → h'.get ib = some (.cells 0 22 [inV] 0 false) → Bs h' inV (inner xs) → getL ts' 3 = some (.ptr ⟨ib, 0, 0⟩) → Q (.exit 0) (ts', h')) → Wp TF (.loop l80_1) (ts, h) Q := by
  have hmx : 200000000000000 = maxRow := rfl
  intro k
  induction k with
  | zero =>
    intro i hi h inV ts hE hib hg hO t0 t3 t4 t10 t11 t12 Q hQ
    obtain rfl : i = xs.length := by omega
    rw [List.take_length] at hO
    refine Wp.loop ?_
    rw [laid_eq t0 [(3, .ptr ⟨ib, 0, 0⟩), (4, .fn (.func 87) [] [.ptr ⟨ib, 0, 0⟩]), (10, v), (11, .int .i64 xs.length), (12, .int .i64 xs.length)] (by simp [t3, t4, t10, t11, t12])]
    unfold l80_1
    refine Wp.seq ?_
    refine Wp.region ?_
    refine Wo.val (.bool false) h (by kernel_rfl) (iop_cmp (op := .lss) (k := .i64) (a := xs.length) (b := xs.length) false (by kernel_rfl) (by kernel_rfl) (by simp) (by simp [binInt])) ?_
    refine Wo.nil ?_
    refine Wp.seq ?_
    refine Wp.cond false (by kernel_rfl) ?_
    exact Wp.exit (hQ _ _ inV (by kernel_rfl) hE hg hO (by kernel_rfl))
  | succ k ih =>
    intro i hi h inV ts hE hib hg hO t0 t3 t4 t10 t11 t12 Q hQ
    have hlt : i < xs.length := by omega
    obtain ⟨p, hp⟩ : ∃ p, xs[i]? = some p := ⟨xs[i], List.getElem?_eq_getElem hlt⟩
    have hps := hs.2 p (List.mem_of_getElem? hp)
    have hB := ((hc.el p (List.mem_of_getElem? hp)).1).ext hE
    obtain ⟨a, q, rfl, hld⟩ := (hc.ext hE).at hp
    have wi : IntKind.i64.wrap ((i : Int) + 1) = ((i + 1 : Nat) : Int) := by rw [i64_fit _ (by have := hs.1; omega)]; omega
    have hil : (inner (xs.take i)).length ≤ 515 * 4 := by
      have := inner_len (xs.take i) (fun q hq => hs.2 q (List.mem_of_mem_take hq))
      have h2 : (xs.take i).length ≤ 4 := by rw [List.length_take]; have := hs.1; omega
      omega
    obtain ⟨r1, H1, c1, z, g1, o1, X1⟩ := add_run hg hib hO hB (by omega) (by omega)
    have n0 := hE.1
    have n1 := X1.1
    have E1 : Ext h0 H1 := ⟨by omega, fun b hb => by rw [X1.2 b (by omega) (by omega)]; exact hE.2 b hb⟩
    have hstep : inner (xs.take i) ++ certB p.2 = inner (xs.take (i + 1)) := by rw [take_step hp, inner_snoc]
    rw [hstep] at o1
    refine Wp.loop ?_
    rw [laid_eq t0 [(3, .ptr ⟨ib, 0, 0⟩), (4, .fn (.func 87) [] [.ptr ⟨ib, 0, 0⟩]), (10, .sl a xs.length q), (11, .int .i64 xs.length), (12, .int .i64 i)] (by simp [t3, t4, t10, t11, t12])]
    unfold l80_1
    refine Wp.seq ?_
    refine Wp.region ?_
    refine Wo.val (.bool true) h (by kernel_rfl) (iop_cmp (op := .lss) (k := .i64) (a := i) (b := xs.length) true (by kernel_rfl) (by kernel_rfl) (by simp) (by simp [binInt]; omega)) ?_
    refine Wo.nil ?_
    refine Wp.seq ?_
    refine Wp.cond true (by kernel_rfl) ?_
    refine Wp.skip ?_
    refine Wp.seq ?_
    refine Wp.block ?_
    refine Wp.seq ?_
    refine Wp.region ?_
    refine Wo.val _ h (by kernel_rfl) (iop_ia (a := a) (n := xs.length) (c := q) (i := i) (by kernel_rfl) (by kernel_rfl) hlt) ?_
    refine Wo.val p.1 h (by kernel_rfl) (iop_ld (a := ⟨a.b, a.g, a.o + i * 1⟩) (by kernel_rfl) hld) ?_
    refine Wo.pre 1 (by kernel_rfl) ?_
    refine Wo.nil ?_
    refine Wp.region ?_
    refine Wo.pre 1 (by kernel_rfl) ?_
    refine Wo.pre 1 (by kernel_rfl) ?_
    refine Wo.call (by kernel_rfl) (by kernel_rfl) (c1) ?_
    refine Wo.nil ?_
    refine Wp.region ?_
    refine Wo.pre 1 (by kernel_rfl) ?_
    refine Wo.pre 1 (by kernel_rfl) ?_
    refine Wo.nil ?_
    exact ih (i + 1) (by omega) H1 z _ E1 (by omega) g1 o1.bs (by kernel_rfl) (by kernel_rfl) (by kernel_rfl) (by kernel_rfl) (by kernel_rfl) (by rw [← wi]; kernel_rfl) Q hQ

theorem list_run {h : H} {v : AV} {xs : List (AV × List UInt8)} (hc : Ch h v xs) (hs : Small xs) : ∃ z h', Runs TF 80 [v] h z h' ∧ Ext h h' ∧ Ow h.n h' z (listB xs) := by
  refine Runs.ofP f80 rfl ?_
  have hmx : 200000000000000 = maxRow := rfl
  obtain ⟨H1, hH1⟩ : ∃ H1, H1 = h.new (.cells 0 22 [.nils] 0 false) := ⟨_, rfl⟩
  have X1 : Ext h H1 := by rw [hH1]; exact Ext.new _ _
  have g1 : H1.get h.n = some (.cells 0 22 [.nils] 0 false) := by rw [hH1]; exact h.get_new _
  have en : ∀ ts, iop (.new 22 (.c .nils)) (ev ts) h = some (.val (.ptr ⟨h.n, 0, 0⟩) H1) := fun ts => by rw [hH1]; kernel_rfl
  refine Wp.seq ?_
  refine Wp.region ?_
  refine Wo.pre 8 (by kernel_rfl) ?_
  refine Wo.nil ?_
  refine Wp.seq ?_
  refine Wp.region ?_
  refine Wo.val _ _ (by kernel_rfl) (en _) ?_
  refine Wo.nil ?_
  refine Wp.seq ?_
  refine Wp.region ?_
  refine Wo.pre 8 (by kernel_rfl) ?_
  refine Wo.nil ?_
  refine Wp.seq ?_
  refine Wp.seq ?_
  refine Wp.region ?_
  refine Wo.pre 1 (by kernel_rfl) ?_
  refine Wo.val (.int .i64 xs.length) H1 (by kernel_rfl) (iop_lenS (v := v) (by kernel_rfl) hc.lenS) ?_
  refine Wo.pre 8 (by kernel_rfl) ?_
  refine Wo.nil ?_
  refine Wp.block ?_
  refine list_loop (ib := h.n) hc hs (Nat.le_refl _) xs.length 0 (by omega) H1 .nils _ X1 (by rw [hH1]; simp) g1 (.inl ⟨rfl, by simp [inner]⟩) (by kernel_rfl) (by kernel_rfl) (by kernel_rfl) (by kernel_rfl) (by kernel_rfl) (by kernel_rfl) _ ?_
  intro ts' h' inV d0 hE hg hO d3
  rw [laid_eq d0 [(3, .ptr ⟨h.n, 0, 0⟩)] (by simp [d3])]
  have hil := inner_len xs hs.2
  have h4 := hs.1
  have L0 : h'.ldg ⟨h.n, 0, 0⟩ none = some inV := by simp [H.ldg, H.ld, H.row, hg, getL]
  obtain ⟨r2, H2, c2, z, rfl, X2, o2⟩ := wvec_any (h := h') (x := .nils) (lx := []) (.inl ⟨rfl, rfl⟩) hO (3 : Nat) (by simp; omega) (by omega)
  rw [vecE_small (by omega) (.inr rfl)] at c2
  rw [if_pos (vecE_small (by omega) (.inr rfl)), List.nil_append] at o2
  refine Wp.seq ?_
  refine Wp.region ?_
  refine Wo.val inV h' (by kernel_rfl) (iop_ld (a := ⟨h.n, 0, 0⟩) (by kernel_rfl) L0) ?_
  refine Wo.call (by kernel_rfl) (by kernel_rfl) (c2) ?_
  refine Wo.pre 8 (by kernel_rfl) ?_
  refine Wo.nil ?_
  refine Wp.seq ?_
  refine Wp.region ?_
  refine Wo.pre 8 (by kernel_rfl) ?_
  refine Wo.nil ?_
  exact Wp.ret ⟨.inr rfl, z, (by kernel_rfl), hE.trans X2, o2.mono hE.1⟩
end Go.Det

/- Entries: what stands beside, records, items. -/
set_option linter.unusedVariables false
set_option linter.unusedSimpArgs false
set_option linter.unusedSectionVars false
namespace Go.Det
open Go.Proofs
attribute [local irreducible] Wp Wo Wd iop ev slots quiets wanted put

/-- A chain without its first. -/
theorem Ch.rest {h : H} {v : AV} {xs : List (AV × List UInt8)} (hc : Ch h v xs) (h1 : 1 ≤ xs.length) :
    ∃ v', (∀ (x y : IX) (ρ : IX → AV), ρ x = v → ρ y = .int .i64 1 → iop (.slL 1 x (some y) none none) ρ h = some (.val v' h)) ∧ Ch h v' (xs.drop 1) := by
  rcases hc.row with ⟨_, rfl⟩ | ⟨a, c, rfl, ha, hld⟩
  · simp at h1
  · have hel : ∀ p ∈ xs.drop 1, Bs h p.1 p.2 ∧ Cok p.1 := fun p hp => hc.el p (List.mem_of_mem_drop hp)
    have hd := ldn_drop hld (n := 1) h1
    have hm : (xs.map (·.1)).drop 1 = (xs.drop 1).map (·.1) := by rw [List.map_drop]
    rw [hm] at hd
    have hl : (xs.drop 1).length = xs.length - 1 := by simp
    have q1 : (1 : Int) ≤ (xs.length : Int) := by omega
    rcases hc.cok a _ c rfl with ⟨k, rfl, hk⟩ | rfl
    · have q2 : (xs.length : Int) ≤ (k : Int) := by omega
      by_cases hk1 : k = 1
      · have hx1 : xs.length = 1 := by omega
        have hnil : xs.drop 1 = [] := List.eq_nil_of_length_eq_zero (by omega)
        refine ⟨.sl a (xs.length - 1) (.ex (k - 1)), ?_, ?_⟩
        · intro x y ρ hx hy
          simp [iop, hx, hy, bounds, asI, q1, q2, hk1]
        · rw [hnil]
          refine ⟨.inr ⟨a, .ex (k - 1), by simp [hx1], ha, ?_⟩, fun p hp => by simp at hp, ?_⟩
          · exact ldn_take hld (n := 0) (by omega)
          · rintro a' m c' e
            simp only [AV.sl.injEq] at e
            obtain ⟨rfl, rfl, rfl⟩ := e
            exact .inl ⟨_, rfl, by omega⟩
      · refine ⟨.sl ⟨a.b, a.g, a.o + 1⟩ (xs.length - 1) (.ex (k - 1)), ?_, ⟨.inr ⟨⟨a.b, a.g, a.o + 1⟩, _, by rw [hl], ha, by rw [hl]; exact hd⟩, hel, ?_⟩⟩
        · intro x y ρ hx hy
          simp [iop, hx, hy, bounds, asI, q1, q2, hk1]
        · rintro a' m c' e
          simp only [AV.sl.injEq] at e
          obtain ⟨rfl, rfl, rfl⟩ := e
          exact .inl ⟨_, rfl, by omega⟩
    · refine ⟨.sl ⟨a.b, a.g, a.o + 1⟩ (xs.length - 1) (.op 1), ?_, ⟨.inr ⟨⟨a.b, a.g, a.o + 1⟩, _, by rw [hl], ha, by rw [hl]; exact hd⟩, hel, ?_⟩⟩
      · intro x y ρ hx hy
        simp [iop, hx, hy, bounds, asI, q1]
      · rintro a' m c' e
        simp only [AV.sl.injEq] at e
        obtain ⟨rfl, rfl, rfl⟩ := e
        exact .inr rfl

theorem mayE_small {xs : List (AV × List UInt8)} (hm : mayE xs = true) : Small xs ∧ 1 ≤ xs.length := by
  unfold mayE at hm
  simp only [Bool.and_eq_true, decide_eq_true_eq, List.all_eq_true] at hm
  obtain ⟨⟨h1, h4⟩, h2⟩ := hm
  refine ⟨⟨h4, fun p hp => ?_⟩, h1⟩
  have := h2 p hp
  simp only [mayC, decide_eq_true_eq] at this
  exact this.2

def extraX (xs : List (AV × List UInt8)) : List UInt8 := if mayE xs = true then listB (xs.drop 1) else []
def recX (t : Nat) (xs : List (AV × List UInt8)) : List UInt8 := if mayE xs = true then digits t 8 8 ++ listB xs else []

set_option maxHeartbeats 1000000 in
theorem record_run {h : H} {v : AV} {xs : List (AV × List UInt8)} (hc : Ch h v xs) (hlen : xs.length < 2 ^ 62) {t : Nat} (ht : t < 2 ^ 64) : ∃ r h', Runs TF 44 [entV t v] h r h' ∧ ∃ z, r = .tup [z, .int .i64 (leafE xs)] ∧ Ext h h' ∧ Ow h.n h' z (recX t xs) := by
  refine Runs.ofP f44 rfl ?_
  have hmx : 200000000000000 = maxRow := rfl
  obtain ⟨H1, X1, n1, enew, Ld⟩ := ent_new hc t
  obtain ⟨r2, H2, c2, rfl, X2⟩ := may_run (hc.ext X1) hlen t
  have l1 := Ld H1 (Ext.refl _)
  have l2 := Ld H2 X2
  by_cases hm : mayE xs = true
  rotate_left
  · have hm : mayE xs = false := by simpa using hm
    rw [hm] at c2
    have e1 : leafE xs = 1 := by rw [leafE, hm]; rfl
    have e2 : recX t xs = [] := by simp [extraX, recX, hm]
    refine Wp.seq ?_
    refine Wp.region ?_
    refine Wo.val _ _ (by kernel_rfl) (enew (by kernel_rfl)) ?_
    refine Wo.pre 8 (by kernel_rfl) ?_
    refine Wo.nil ?_
    refine Wp.seq ?_
    refine Wp.seq ?_
    refine Wp.region ?_
    refine Wo.val (entV t v) H1 (by kernel_rfl) (iop_ld (a := ⟨h.n, 0, 0⟩) (by kernel_rfl) l1.2.2) ?_
    refine Wo.call (by kernel_rfl) (by kernel_rfl) (c2) ?_
    refine Wo.pre 8 (by kernel_rfl) ?_
    refine Wo.nil ?_
    refine Wp.cond true (by kernel_rfl) ?_
    refine Wp.seq ?_
    refine Wp.region ?_
    refine Wo.pre 8 (by kernel_rfl) ?_
    refine Wo.nil ?_
    refine Wp.ret ⟨.inr rfl, .tup [.nils, .int .i64 1], (by kernel_rfl), .nils, by rw [e1], X1.trans X2, by rw [e2]; exact .inl ⟨rfl, rfl⟩⟩
  rw [hm] at c2
  have eE : leafE xs = 0 := by rw [leafE, hm]; rfl
  obtain ⟨hs, hx1⟩ := mayE_small hm
  have X12 := X1.trans X2
  rw [eE]
  have eX : recX t xs = digits t 8 (8 : Int).toNat ++ listB xs := by rw [recX, if_pos hm]; rfl
  rw [eX]
  obtain ⟨y, H3, c3, X3, o3⟩ := number_run (h := H2) (b := .nils) (l := []) (.inl ⟨rfl, rfl⟩) (by decide) ht 8
  rw [if_pos (numE_8 ht), List.nil_append] at o3
  obtain ⟨z, H4, c4, X4, o4⟩ := list_run (hc.ext (X12.trans X3)) hs
  have hil := inner_len xs hs.2
  have h4 := hs.1
  have hlb : (listB xs).length ≤ 3000 := by
    unfold listB
    rw [List.length_append, digits_len]; omega
  have m3 := X3.1
  have m4 := X4.1
  have m12 := X12.1
  obtain ⟨w, H5, a5, o5, Y5, _⟩ := ((o3.mono m12).ext X4).app o4.bs (by omega) (by simp [digits_len]; omega)
  have l3 := Ld H3 (X2.trans X3)
  refine Wp.seq ?_
  refine Wp.region ?_
  refine Wo.val _ _ (by kernel_rfl) (enew (by kernel_rfl)) ?_
  refine Wo.pre 8 (by kernel_rfl) ?_
  refine Wo.nil ?_
  refine Wp.seq ?_
  refine Wp.seq ?_
  refine Wp.region ?_
  refine Wo.val (entV t v) H1 (by kernel_rfl) (iop_ld (a := ⟨h.n, 0, 0⟩) (by kernel_rfl) l1.2.2) ?_
  refine Wo.call (by kernel_rfl) (by kernel_rfl) (c2) ?_
  refine Wo.pre 8 (by kernel_rfl) ?_
  refine Wo.nil ?_
  refine Wp.cond false (by kernel_rfl) ?_
  refine Wp.skip ?_
  refine Wp.seq ?_
  refine Wp.draw ?_
  refine Wd.pure (by kernel_rfl) (by kernel_rfl) ?_
  refine Wd.read (.int .u64 t) (.ld none (.c (.ptr ⟨h.n, 0, 0⟩))) (by kernel_rfl) (by kernel_rfl) (iop_ld (a := ⟨h.n, 0, 0⟩) (by kernel_rfl) l2.1) ?_
  refine Wd.pure (by kernel_rfl) (by kernel_rfl) ?_
  refine Wd.read v (.ld none (.c (.ptr ⟨h.n, 0, 1⟩))) (by kernel_rfl) (by kernel_rfl) (iop_ld (a := ⟨h.n, 0, 1⟩) (by kernel_rfl) l2.2.1) ?_
  refine Wd.call (by kernel_rfl) (by kernel_rfl) c3 (holds_of [(.ld none (.c (.ptr ⟨h.n, 0, 1⟩)), v, 4), (.ld none (.c (.ptr ⟨h.n, 0, 0⟩)), .int .u64 t, 1)] (by kernel_rfl) (holds_and (rd_ld l2.2.1) (holds_and (rd_ld l2.1) rfl))) ?_
  refine Wd.call (by kernel_rfl) (by kernel_rfl) c4 (holds_of [(.ld none (.c (.ptr ⟨h.n, 0, 1⟩)), v, 4)] (by kernel_rfl) (holds_and (rd_ld l3.2.1) rfl)) ?_
  refine Wd.act w H5 (by kernel_rfl) (iop_app (v := y) (w := z) (by kernel_rfl) (by kernel_rfl) o4.bs.parts.2.2 a5) (holds_of [] (by kernel_rfl) rfl) ?_
  refine Wd.pure (by kernel_rfl) (by kernel_rfl) ?_
  refine Wd.pure (by kernel_rfl) (by kernel_rfl) ?_
  refine Wd.done (holds_of [] (by kernel_rfl) rfl) ?_
  exact Wp.ret ⟨.inr rfl, .tup [w, .int .i64 0], (by kernel_rfl), w, rfl, ((X12.trans X3).trans X4).then2 Y5, o5⟩

theorem retI {ts : List AV} {h : H} {k j ag : Nat} {a : AA} {v w : AV} (LA : h.ldg a (some ag) = some v) (h1 : getL ts k = some (.ptr a)) (h2 : getL ts j = some w) : retV h ts [(k, some (some ag)), (j, none)] = some (.tup [v, w]) := by
  simp [retV, resOf, iop, ev, h1, h2, LA]

end Go.Det

/- Entries: whether two say the same. -/
set_option linter.unusedVariables false
set_option linter.unusedSimpArgs false
set_option linter.unusedSectionVars false
namespace Go.Det
open Go.Proofs
attribute [local irreducible] Wp Wo Wd iop ev slots quiets wanted put

def says (xs : List (AV × List UInt8)) : List (List UInt8) := xs.map (·.2)
theorem says_len (xs : List (AV × List UInt8)) : (says xs).length = xs.length := by simp [says]

def sameE (t : Nat) (xs : List (AV × List UInt8)) (t' : Nat) (ys : List (AV × List UInt8)) : Bool := decide (t = t') && decide (says xs = says ys)

end Go.Det

/- Entries: whether two say the same, by the reference. -/
set_option linter.unusedVariables false
set_option linter.unusedSimpArgs false
set_option linter.unusedSectionVars false
namespace Go.Det
open Go.Proofs
attribute [local irreducible] Wp Wo Wd iop ev slots quiets wanted put

end Go.Det

/- Rows that are spoiled: entries' laws. -/
set_option linter.unusedVariables false
set_option linter.unusedSimpArgs false
set_option linter.unusedSectionVars false
namespace Go.Det
open Go.Proofs
attribute [local simp] skip_iff ret_iff exit_iff seq_iff block_iff thenQ_normal thenQ_ret thenQ_exit thenQ_goto blockQ_normal blockQ_ret blockQ_exit blockQ_goto condQ_bool cond_iff region_iff wo_nil ansQ_val ansQ_call wo_cons wo_guard wanted put setL getL ev iop binop binInt shInt asI retV resOf unop
attribute [local congr] ansQ_congr condQ_congr Wo_congr Wp_congr

end Go.Det

/- Entries: one in new memory; rows that are spoiled. -/
set_option linter.unusedVariables false
set_option linter.unusedSimpArgs false
set_option linter.unusedSectionVars false
namespace Go.Det
open Go.Proofs
attribute [local irreducible] Wp Wo Wd iop ev slots quiets wanted put

/-- A chain of its own, its rows too. -/
structure OwnCh (lo : Nat) (h : H) (v : AV) (ys : List (AV × List UInt8)) : Prop where
  row : OwC 22 1 lo h v (ys.map (·.1)) ys.length
  el : ∀ p ∈ ys, Ow lo h p.1 p.2

theorem OwnCh.ch {lo : Nat} {h : H} {v : AV} {ys : List (AV × List UInt8)} (o : OwnCh lo h v ys) : Ch h v ys := by
  refine ⟨?_, fun p hp => ⟨(o.el p hp).bs, (o.el p hp).cok⟩, ?_⟩
  · rcases o.row with ⟨h1, _, h2⟩ | ⟨b, g, h1, h2, h3, h4, h5⟩
    · exact .inl ⟨h1, List.length_eq_zero_iff.1 h2⟩
    · refine .inr ⟨⟨b, g, 0⟩, .op 1, h4, h2, ?_⟩
      unfold H.ldn H.row
      simp only [h3, BEq.rfl, Bool.not_false, Bool.true_or, Bool.and_self, if_true]
      have : ys.length = (ys.map (·.1)).length := by simp
      rw [this]
      exact cut_all _
  · rintro a m c e
    rcases o.row with ⟨h1, _⟩ | ⟨b, g, _, _, _, h4, _⟩
    · rw [h1] at e; simp at e
    · rw [h4] at e; simp only [AV.sl.injEq] at e; exact .inr e.2.2.symm

theorem OwnCh.ext {lo : Nat} {h h' : H} {v : AV} {ys : List (AV × List UInt8)} (o : OwnCh lo h v ys) (hx : Ext h h') : OwnCh lo h' v ys :=
  ⟨o.row.ext hx.1 (fun b _ _ _ h2 _ => hx.2 b h2), fun p hp => (o.el p hp).ext hx⟩

end Go.Det

/- Entries' laws: rows are spoiled. -/
set_option linter.unusedVariables false
set_option linter.unusedSimpArgs false
set_option linter.unusedSectionVars false
namespace Go.Det
open Go.Proofs
attribute [local irreducible] Wp Wo Wd iop ev slots quiets wanted put

end Go.Det

/- The law EntryMakes. -/
set_option linter.unusedVariables false
set_option linter.unusedSimpArgs false
set_option linter.unusedSectionVars false
namespace Go.Det
open Go.Proofs
attribute [local irreducible] Wp Wo Wd iop ev slots quiets wanted put

/-- A block of two cells, made and filled. -/
theorem made2 {h : H} (ty : Nat) {z1 z2 x y : AV} (hz : ([z1, z2] : List AV).all AV.one = true) (hx : x.one = true) (hy : y.one = true) :
    ∃ H1 H2, Ext h H2 ∧ H2.n = h.n + 1 ∧ H2.get h.n = some (.cells 0 ty [x, y] 0 false) ∧ (∀ {u : IX} {ρ : IX → AV}, ρ u = .agg [z1, z2] → iop (.new ty u) ρ h = some (.val (.ptr ⟨h.n, 0, 0⟩) H1)) ∧
      (∀ {u w : IX} {ρ : IX → AV}, ρ u = .ptr ⟨h.n, 0, 0⟩ → ρ w = .agg [x, y] → iop (.st 2 u w) ρ H1 = some (.val .undef H2)) ∧ Ext h H1 ∧ H1.n = h.n + 1 := by
  refine ⟨h.new (.cells 0 ty [z1, z2] 0 false), (h.new (.cells 0 ty [z1, z2] 0 false)).set h.n (.cells 0 ty [x, y] 0 false), ⟨Nat.le_succ _, fun b hb => ?_⟩, rfl, H.get_set _ _ _, fun hu => iop_new hu hz, fun hu hw => iop_stA (a := ⟨h.n, 0, 0⟩) (cs := [x, y]) hu hw rfl ?_, Ext.new _ _, rfl⟩
  · rw [H.get_set_ne _ _ _ _ (by omega)]; exact h.get_new_ne b _ (by omega)
  · unfold H.st
    simp only [H.get_new]
    rw [if_pos (by simp [hx, hy])]
    rfl

theorem ld_two {h : H} {b ty : Nat} {x y : AV} (hg : h.get b = some (.cells 0 ty [x, y] 0 false)) : h.ldg ⟨b, 0, 0⟩ (some 2) = some (.agg [x, y]) ∧ h.ldg ⟨b, 0, 0⟩ none = some x ∧ h.ldg ⟨b, 0, 1⟩ none = some y := by
  simp [H.ldg, H.ld, H.ldn, H.row, hg, getL, cut]

theorem made_len (xs : List (AV × List UInt8)) (t : Nat) : (leafX t xs).length ≤ 3000 ∧ (extraX xs).length ≤ 3000 ∧ (recX t xs).length ≤ 3000 := by
  unfold leafX extraX recX
  by_cases hm : mayE xs = true
  · obtain ⟨p, h1, h2, h3, h4, h5⟩ := mayE_first hm
    obtain ⟨hs, _⟩ := mayE_small hm
    have i1 := inner_len xs hs.2
    have i2 := inner_len (xs.drop 1) (fun q hq => hs.2 q (List.mem_of_mem_drop hq))
    have hl := hs.1
    have hd : (xs.drop 1).length ≤ 4 := by rw [List.length_drop]; omega
    simp only [if_pos hm, leafB, listB, List.length_append, digits_len, h2, List.length_cons, List.length_nil]
    refine ⟨by omega, by omega, by omega⟩
  · simp [if_neg hm]

end Go.Det

/- Lists of certificates read from bytes: the plain law. -/
set_option linter.unusedVariables false
set_option linter.unusedSimpArgs false
namespace Go.Det
open Go.Proofs

/-- Rows of three-byte vectors, to the end. -/
def cutN : Nat → List UInt8 → Option (List (List UInt8))
  | 0, l => if l = [] then some [] else none
  | k + 1, l => if l = [] then some [] else if vE l 3 = 0 then (cutN k (vL l 3)).map (vX l 3 :: ·) else none

def innerS (cs : List (List UInt8)) : List UInt8 := (cs.map certB).flatten
def listS (cs : List (List UInt8)) : List UInt8 := digits (innerS cs).length 3 3 ++ innerS cs
theorem inner_says (xs : List (AV × List UInt8)) : inner xs = innerS (says xs) := by simp only [inner, innerS, says, List.map_map]; rfl
theorem list_says (xs : List (AV × List UInt8)) : listB xs = listS (says xs) := by simp only [listB, listS, inner_says]

theorem vE3 (l : List UInt8) : vE l 3 = 0 ∨ vE l 3 = 4 := by
  unfold vE
  rw [if_neg (by decide)]
  split
  · exact .inr rfl
  · split
    · exact .inr rfl
    · exact .inl rfl
theorem vE3_iff {l : List UInt8} : vE l 3 = 0 ↔ 3 + be (l.take 3) ≤ l.length := by
  unfold vE
  rw [if_neg (by decide)]
  have e : (3 : Int).toNat = 3 := rfl
  simp only [e]
  split
  · constructor
    · intro h; cases h
    · intro h; omega
  · split
    · constructor
      · intro h; cases h
      · intro h; omega
    · constructor
      · intro h; omega
      · intro h; rfl
theorem vX3 {l : List UInt8} (h : vE l 3 = 0) : vX l 3 = (l.drop 3).take (be (l.take 3)) := by rw [vX, if_pos h]; rfl
theorem vL3 {l : List UInt8} (h : vE l 3 = 0) : vL l 3 = l.drop (3 + be (l.take 3)) := by rw [vL, if_pos h]; rfl
theorem vX3_len {l : List UInt8} (h : vE l 3 = 0) : (vX l 3).length = be (l.take 3) := by
  have := vE3_iff.1 h
  rw [vX3 h, List.length_take, List.length_drop]; omega
theorem vX3_lt (l : List UInt8) : (vX l 3).length < 16777216 := by
  unfold vX
  split
  · rename_i h
    have h1 := vE3_iff.1 h
    have h2 := be_lt (l.take 3)
    have h3 : (l.take 3).length = 3 := by rw [List.length_take]; omega
    rw [h3] at h2
    have e : (3 : Int).toNat = 3 := rfl
    rw [List.length_take, List.length_drop, e]
    omega
  · simp
theorem vL3_len {l : List UInt8} (h : vE l 3 = 0) : (vL l 3).length + 3 ≤ l.length := by
  have := vE3_iff.1 h
  rw [vL3 h, List.length_drop]; omega

/-- Laid down, and read. -/
theorem dec3 {c : List UInt8} (hc : c.length < 16777216) (m : List UInt8) : vE (certB c ++ m) 3 = 0 ∧ vX (certB c ++ m) 3 = c ∧ vL (certB c ++ m) 3 = m := by
  have hbe : be (digits c.length 3 3) = c.length := be_dig' (s := 3) hc
  have htk : (certB c ++ m).take 3 = digits c.length 3 3 := by rw [certB, List.append_assoc, List.take_left' (digits_len _ _ _)]
  have hdr : (certB c ++ m).drop 3 = c ++ m := by rw [certB, List.append_assoc, List.drop_left' (digits_len _ _ _)]
  have hlen : (certB c ++ m).length = 3 + c.length + m.length := by rw [certB]; simp [digits_len, Nat.add_assoc]
  have e0 : vE (certB c ++ m) 3 = 0 := vE3_iff.2 (by rw [htk, hbe]; omega)
  refine ⟨e0, ?_, ?_⟩
  · rw [vX3 e0, htk, hbe, hdr, List.take_left]
  · rw [vL3 e0, htk, hbe, ← List.drop_drop, hdr, List.drop_left]

/-- Read, and laid down. -/
theorem enc3 {l : List UInt8} (h : vE l 3 = 0) : certB (vX l 3) ++ vL l 3 = l := by
  have h1 := vE3_iff.1 h
  have hd := be_digits (l.take 3)
  have h3 : (l.take 3).length = 3 := by rw [List.length_take]; omega
  rw [h3] at hd
  rw [certB, vX3_len h, hd, vX3 h, vL3 h, ← List.drop_drop, List.append_assoc, List.take_append_drop, List.take_append_drop]

theorem cut_dec : ∀ (k : Nat) (l : List UInt8) (cs : List (List UInt8)), cutN k l = some cs → innerS cs = l
  | 0, l, cs, h => by
    simp only [cutN] at h
    split at h
    · rename_i e; simp only [Option.some.injEq] at h; subst h; rw [e]; rfl
    · cases h
  | k + 1, l, cs, h => by
    simp only [cutN] at h
    split at h
    · rename_i e; simp only [Option.some.injEq] at h; subst h; rw [e]; rfl
    · split at h
      · rename_i e
        simp only [Option.map_eq_some_iff] at h
        obtain ⟨ds, h1, rfl⟩ := h
        have := cut_dec k _ _ h1
        simp only [innerS, List.map_cons, List.flatten_cons] at this ⊢
        rw [this]
        exact enc3 e
      · cases h

theorem cut_enc : ∀ (k : Nat) (cs : List (List UInt8)), cs.length ≤ k → (∀ c ∈ cs, c.length < 16777216) → cutN k (innerS cs) = some cs
  | 0, [], _, _ => rfl
  | k + 1, [], _, _ => rfl
  | k + 1, c :: cs, hk, hc => by
    have hd := dec3 (hc c (by simp)) (innerS cs)
    have e : innerS (c :: cs) = certB c ++ innerS cs := by simp [innerS]
    have hne : certB c ++ innerS cs ≠ [] := by
      intro h
      have := congrArg List.length h
      simp [certB, digits_len] at this
    rw [e]
    simp only [cutN]
    rw [if_neg hne, if_pos hd.1, hd.2.1, hd.2.2, cut_enc k cs (by simpa using hk) (fun x hx => hc x (by simp [hx]))]
    rfl

theorem cut_some : ∀ (k : Nat) (l : List UInt8) (cs : List (List UInt8)), cutN k l = some cs → ∀ c ∈ cs, c.length < 16777216
  | 0, l, cs, h => by
    simp only [cutN] at h
    split at h
    · simp only [Option.some.injEq] at h; subst h; intro c hc; simp at hc
    · cases h
  | k + 1, l, cs, h => by
    simp only [cutN] at h
    split at h
    · simp only [Option.some.injEq] at h; subst h; intro c hc; simp at hc
    · split at h
      · simp only [Option.map_eq_some_iff] at h
        obtain ⟨ds, h1, rfl⟩ := h
        intro c hc
        rcases List.mem_cons.1 hc with rfl | hc
        · exact vX3_lt l
        · exact cut_some k _ _ h1 c hc
      · cases h

theorem innerS_cons (c : List UInt8) (cs : List (List UInt8)) : innerS (c :: cs) = certB c ++ innerS cs := by simp [innerS]
theorem innerS_len : ∀ cs : List (List UInt8), cs.length ≤ (innerS cs).length
  | [] => Nat.zero_le _
  | c :: cs => by
    have := innerS_len cs
    rw [innerS_cons]
    simp only [certB, List.length_append, digits_len, List.length_cons]
    omega

/-- The certificates that a list's inner bytes tell. -/
def cutA (l : List UInt8) : Option (List (List UInt8)) := cutN l.length l
theorem cutA_enc {cs : List (List UInt8)} (hc : ∀ c ∈ cs, c.length < 16777216) : cutA (innerS cs) = some cs := cut_enc _ cs (innerS_len cs) hc

/-- The program's: what stands behind is looked at later. -/
def certP (l : List UInt8) : Option (List (List UInt8)) := if vE l 3 = 0 then cutA (vX l 3) else none
/-- The reference's. -/
def certR (l : List UInt8) : Option (List (List UInt8)) := if vL l 3 = [] then certP l else none

theorem certR_dec {l : List UInt8} {cs : List (List UInt8)} (h : certR l = some cs) : listS cs = l ∧ ∀ c ∈ cs, c.length < 16777216 := by
  unfold certR at h
  split at h
  · rename_i e
    unfold certP at h
    split at h
    · rename_i e0
      have h1 := cut_dec _ _ _ h
      have h2 := enc3 e0
      rw [e, List.append_nil, certB] at h2
      exact ⟨by rw [listS, h1]; exact h2, cut_some _ _ _ h⟩
    · cases h
  · cases h
theorem certR_enc {cs : List (List UInt8)} (hc : ∀ c ∈ cs, c.length < 16777216) (hl : (innerS cs).length < 16777216) : certR (listS cs) = some cs := by
  have hd := dec3 hl []
  rw [List.append_nil] at hd
  have e : listS cs = certB (innerS cs) := rfl
  rw [certR, e, if_pos hd.2.2, certP, if_pos hd.1, hd.2.1]
  exact cutA_enc hc

def mayS (cs : List (List UInt8)) : Bool := decide (1 ≤ cs.length ∧ cs.length ≤ 4) && cs.all mayC
theorem may_says (xs : List (AV × List UInt8)) : mayE xs = mayS (says xs) := by simp only [mayE, mayS, says, List.length_map, List.all_map]; rfl
theorem mayS_small {cs : List (List UInt8)} (h : mayS cs = true) : 1 ≤ cs.length ∧ cs.length ≤ 4 ∧ ∀ c ∈ cs, 1 ≤ c.length ∧ c.length ≤ 512 := by
  simp only [mayS, Bool.and_eq_true, decide_eq_true_eq, List.all_eq_true, mayC] at h
  exact ⟨h.1.1, h.1.2, h.2⟩
theorem innerS_le : ∀ (cs : List (List UInt8)), (∀ c ∈ cs, c.length ≤ 512) → (innerS cs).length ≤ 515 * cs.length
  | [], _ => Nat.zero_le _
  | c :: cs, h => by
    have h1 := innerS_le cs (fun x hx => h x (by simp [hx]))
    have h2 := h c (by simp)
    rw [innerS_cons]
    simp only [certB, List.length_append, digits_len, List.length_cons]
    omega
theorem certR_may {cs : List (List UInt8)} (h : mayS cs = true) : certR (listS cs) = some cs := by
  obtain ⟨h1, h2, h3⟩ := mayS_small h
  have := innerS_le cs (fun c hc => (h3 c hc).2)
  exact certR_enc (fun c hc => by have := (h3 c hc).2; omega) (by omega)

/-- A record's entry: time, certificates, error. -/
def recOf (l : List UInt8) : Nat × List (List UInt8) × Int :=
  match (if 8 ≤ l.length then certR (l.drop 8) else none) with
  | some cs => if mayS cs = true then (be (l.take 8), cs, 0) else (0, [], 5)
  | none => (0, [], 5)

theorem rec_bad {l : List UInt8} (h : ¬ 8 ≤ l.length) : recOf l = (0, [], 5) := by simp [recOf, h]
theorem rec_none {l : List UInt8} (h8 : 8 ≤ l.length) (h : certR (l.drop 8) = none) : recOf l = (0, [], 5) := by simp [recOf, h8, h]
theorem rec_may {l : List UInt8} {cs : List (List UInt8)} (h8 : 8 ≤ l.length) (h : certR (l.drop 8) = some cs) (hm : mayS cs = true) : recOf l = (be (l.take 8), cs, 0) := by simp [recOf, h8, h, hm]
theorem rec_not {l : List UInt8} {cs : List (List UInt8)} (h8 : 8 ≤ l.length) (h : certR (l.drop 8) = some cs) (hm : ¬ mayS cs = true) : recOf l = (0, [], 5) := by simp [recOf, h8, h, hm]

theorem be8_lt {l : List UInt8} (h : l.length ≤ 8) : be l < 2 ^ 64 := by
  have h1 := be_lt l
  have h2 : 256 ^ l.length ≤ 256 ^ 8 := Nat.pow_le_pow_right (by decide) h
  have h3 : 256 ^ 8 = 2 ^ 64 := by decide
  omega

/-- What an entry's record is, and back. -/
def recS (t : Nat) (cs : List (List UInt8)) : List UInt8 := digits t 8 8 ++ listS cs
theorem rec_enc {t : Nat} (ht : t < 2 ^ 64) {cs : List (List UInt8)} (hm : mayS cs = true) : recOf (recS t cs) = (t, cs, 0) := by
  have e1 : (recS t cs).drop 8 = listS cs := by rw [recS, List.drop_left' (digits_len _ _ _)]
  have e2 : (recS t cs).take 8 = digits t 8 8 := by rw [recS, List.take_left' (digits_len _ _ _)]
  have h8 : 8 ≤ (recS t cs).length := by rw [recS, List.length_append, digits_len]; omega
  have h3 : t < 256 ^ 8 := by rw [show 256 ^ 8 = 2 ^ 64 by decide]; exact ht
  rw [rec_may h8 (by rw [e1]; exact certR_may hm) hm, e2, be_dig' h3]
theorem rec_dec {l : List UInt8} {t : Nat} {cs : List (List UInt8)} {E : Int} (h : recOf l = (t, cs, E)) : (E = 0 ∧ mayS cs = true ∧ recS t cs = l ∧ t < 2 ^ 64) ∨ (E = 5 ∧ t = 0 ∧ cs = []) := by
  by_cases h8 : 8 ≤ l.length
  · cases hc : certR (l.drop 8) with
    | none => rw [rec_none h8 hc] at h; simp only [Prod.mk.injEq] at h; exact .inr ⟨h.2.2.symm, h.1.symm, h.2.1.symm⟩
    | some ds =>
      by_cases hm : mayS ds = true
      · rw [rec_may h8 hc hm] at h; simp only [Prod.mk.injEq] at h
        obtain ⟨rfl, rfl, rfl⟩ := h
        refine .inl ⟨rfl, hm, ?_, be8_lt (by rw [List.length_take]; omega)⟩
        have hd := be_digits (l.take 8)
        have h3 : (l.take 8).length = 8 := by rw [List.length_take]; omega
        rw [h3] at hd
        rw [recS, (certR_dec hc).1, hd, List.take_append_drop]
      · rw [rec_not h8 hc hm] at h; simp only [Prod.mk.injEq] at h; exact .inr ⟨h.2.2.symm, h.1.symm, h.2.1.symm⟩
  · rw [rec_bad h8] at h; simp only [Prod.mk.injEq] at h; exact .inr ⟨h.2.2.symm, h.1.symm, h.2.1.symm⟩
end Go.Det

/- Lists of certificates read: the walks. -/
set_option linter.unusedVariables false
set_option linter.unusedSimpArgs false
set_option linter.unusedSectionVars false
namespace Go.Det
open Go.Proofs
attribute [local irreducible] Wp Wo Wd iop ev slots quiets wanted put

theorem OwnCh.keepB {lo rb : Nat} {h h' : H} {v : AV} {ys : List (AV × List UInt8)} (hlo : rb < lo) (x : ExtB rb h h') (o : OwnCh lo h v ys) : OwnCh lo h' v ys :=
  ⟨o.row.ext x.1 (fun b g c h1 h2 _ => x.2 b h2 (by omega)), fun p hp => (o.el p hp).keep x.1 (fun b g c h1 h2 _ => x.2 b h2 (by omega))⟩
theorem OwnCh.mono {lo lo' : Nat} {h : H} {v : AV} {ys : List (AV × List UInt8)} (o : OwnCh lo h v ys) (hl : lo' ≤ lo) : OwnCh lo' h v ys :=
  ⟨o.row.imp id (fun ⟨b, g, h1, h2⟩ => ⟨b, g, by omega, h2⟩), fun p hp => (o.el p hp).mono hl⟩

/-- One row more. -/
theorem OwnCh.add {lo : Nat} {h : H} {v c : AV} {cl : List UInt8} {ys : List (AV × List UInt8)} (o : OwnCh lo h v ys) (hlo : lo ≤ h.n) (hc : Ow lo h c cl) (hn : ys.length < 16777216) :
    ∃ H2 l' H3, (∀ {y : IX} {ρ : IX → AV}, ρ y = c → iop (.bsl 22 [.nils] 1 [(0, 1, y)]) ρ h = some (.val (.sl ⟨h.n, 0, 0⟩ 1 (.ex 1)) H2)) ∧ append H2 22 1 24 v (.sl ⟨h.n, 0, 0⟩ 1 (.ex 1)) = some (.val l' H3) ∧ OwnCh lo H3 l' (ys ++ [(c, cl)]) ∧ h.n ≤ H3.n ∧ ∀ b, b < h.n → (b < lo ∨ ∀ g c, h.get b ≠ some (.cells g 22 c 0 false)) → H3.get b = h.get b := by
  have hmx : 200000000000000 = maxRow := rfl
  have hc1 := hc.bs.parts
  have fit : fits (ys.length + 1) 24 = true := by
    simp only [fits, Bool.and_eq_true, decide_eq_true_eq]; omega
  obtain ⟨H2, hH2⟩ : ∃ H2, H2 = h.new (.cells 0 22 [c] 0 false) := ⟨_, rfl⟩
  obtain ⟨l', H3, a3, o3, n3, k3⟩ := o.row.app hlo (new := [c]) rfl (by simp [hc1.2.1]) fit (by omega) H2 hH2
  have kp : ∀ b g c, lo ≤ b → b < h.n → h.get b = some (.cells g 5 c 0 false) → H3.get b = h.get b := fun b g c h1 h2 h3 => k3 b h2 (.inr (fun g c e => by rw [h3] at e; simp at e))
  refine ⟨H2, l', H3, ?_, a3, ⟨by rw [List.map_append, List.length_append]; exact o3, fun r hr => ?_⟩, n3, k3⟩
  · intro y ρ hy
    simp [iop, fillL, hy, hc1.1, hc1.2.1, putAt, ← hH2]
  · rcases List.mem_append.1 hr with hr | hr
    · exact (o.el r hr).keep n3 kp
    · simp only [List.mem_cons, List.not_mem_nil, or_false] at hr
      subst hr
      exact hc.keep n3 kp

theorem cutN_nil (k : Nat) : cutN k [] = some [] := by cases k <;> rfl
theorem cutN_bad {k : Nat} {l : List UInt8} (hl : l ≠ []) (h : vE l 3 = 4) : cutN (k + 1) l = none := by
  simp only [cutN]; rw [if_neg hl, if_neg (by rw [h]; decide)]
theorem cutN_good {k : Nat} {l : List UInt8} (hl : l ≠ []) (h : vE l 3 = 0) : cutN (k + 1) l = (cutN k (vL l 3)).map (vX l 3 :: ·) := by
  simp only [cutN]; rw [if_neg hl, if_pos h]

set_option maxHeartbeats 2000000 in
theorem certs_loop {hb : H} {rb : Nat} {u0 : AV} (hrb : rb < hb.n) (hu0 : ∀ a n c, u0 = .sl a n c → a.b < hb.n) :
    ∀ (k : Nat) (l : List UInt8), l.length ≤ k → ∀ (h : H) (u lV : AV) (ys : List (AV × List UInt8)) (ts : List AV), ys.length + l.length < 16777216 → Rd h rb u l → SB u0 u → ExtB rb hb h → OwnCh hb.n h lV ys → ts.length = 36 → getL ts 6 = some lV → getL ts 7 = some (.ptr ⟨rb, 0, 0⟩) →
      ∀ (Q : Ex → St → Prop), (∀ ts' h' lV' zs cs, cutN k l = some cs → ExtB rb hb h' → OwnCh hb.n h' lV' zs → says zs = says ys ++ cs → ts'.length = 36 → getL ts' 6 = some lV' → Q (.exit 0) (ts', h')) → (∀ ts' h', cutN k l = none → ExtB rb hb h' → ts'.length = 36 → getL ts' 2 = some .nils → getL ts' 3 = some (.int .i64 4) → Q .ret (ts', h')) → Wp TF (.loop l83_1) (ts, h) Q := by
  have hmx : 200000000000000 = maxRow := rfl
  intro k
  induction k with
  | zero =>
    intro l hk h u lV ys ts hn hR hu hE hO t0 t6 t7 Q hQ hQ'
    obtain rfl : l = [] := List.length_eq_zero_iff.1 (by omega)
    refine Wp.loop ?_
    rw [laid_eq t0 [(6, lV), (7, .ptr ⟨rb, 0, 0⟩)] (by simp [t6, t7])]
    unfold l83_1
    refine Wp.seq ?_
    refine Wp.seq ?_
    refine Wp.region ?_
    refine Wo.pre 1 (by kernel_rfl) ?_
    refine Wo.call (by kernel_rfl) (by kernel_rfl) ((left_run hR)) ?_
    refine Wo.val (.bool false) h (by kernel_rfl) (iop_cmp (op := .gtr) (k := .i64) (a := ([] : List UInt8).length) (b := 0) false (by kernel_rfl) (by kernel_rfl) (by simp) (by simp [binInt])) ?_
    refine Wo.nil ?_
    refine Wp.cond false (by kernel_rfl) ?_
    exact Wp.exit (hQ _ _ lV ys [] (cutN_nil _) hE hO (by simp) (by kernel_rfl) (by kernel_rfl))
  | succ k ih =>
    intro l hk h u lV ys ts hn hR hu hE hO t0 t6 t7 Q hQ hQ'
    by_cases hl : l = []
    · subst hl
      refine Wp.loop ?_
      rw [laid_eq t0 [(6, lV), (7, .ptr ⟨rb, 0, 0⟩)] (by simp [t6, t7])]
      unfold l83_1
      refine Wp.seq ?_
      refine Wp.seq ?_
      refine Wp.region ?_
      refine Wo.pre 1 (by kernel_rfl) ?_
      refine Wo.call (by kernel_rfl) (by kernel_rfl) ((left_run hR)) ?_
      refine Wo.val (.bool false) h (by kernel_rfl) (iop_cmp (op := .gtr) (k := .i64) (a := ([] : List UInt8).length) (b := 0) false (by kernel_rfl) (by kernel_rfl) (by simp) (by simp [binInt])) ?_
      refine Wo.nil ?_
      refine Wp.cond false (by kernel_rfl) ?_
      exact Wp.exit (hQ _ _ lV ys [] (cutN_nil _) hE hO (by simp) (by kernel_rfl) (by kernel_rfl))
    · have hpos : 0 < l.length := List.length_pos_iff.2 hl
      obtain ⟨h1, x, u', c1, hR1, hx, hE1, hu1⟩ := vec_any hR 3 (by omega)
      have hE1' := hE.trans hE1
      rcases vE3 l with he | he
      · rw [he] at c1
        have hl3 := vL3_len he
        have hn0 := hE.1
        have hn1 := hE1'.1
        have hO1 := hO.keepB hrb hE1
        obtain ⟨H2, l', H3, b2, a3, hO3, n3, k3⟩ := hO1.add (by omega) (hx.mono hn0) (by omega)
        have hE3 : ExtB rb hb H3 := ⟨by omega, fun b hb1 hb2 => by rw [k3 b (by omega) (.inl hb1)]; exact hE1'.2 b hb1 hb2⟩
        have hub := hu.trans hu1
        have hR3 : Rd H3 rb u' (vL l 3) := hR1.keep n3 (k3 rb (by omega) (.inl hrb)) (fun a n c e => by
          obtain ⟨a0, n0, q0, e0, e1⟩ := hub a n c e
          have := hu0 a0 n0 q0 e0
          exact k3 a.b (by omega) (.inl (by omega)))
        refine Wp.loop ?_
        rw [laid_eq t0 [(6, lV), (7, .ptr ⟨rb, 0, 0⟩)] (by simp [t6, t7])]
        unfold l83_1
        refine Wp.seq ?_
        refine Wp.seq ?_
        refine Wp.region ?_
        refine Wo.pre 1 (by kernel_rfl) ?_
        refine Wo.call (by kernel_rfl) (by kernel_rfl) ((left_run hR)) ?_
        refine Wo.val (.bool true) h (by kernel_rfl) (iop_cmp (op := .gtr) (k := .i64) (a := l.length) (b := 0) true (by kernel_rfl) (by kernel_rfl) (by simp) (by simp [binInt, hpos])) ?_
        refine Wo.nil ?_
        refine Wp.cond true (by kernel_rfl) ?_
        refine Wp.skip ?_
        refine Wp.block ?_
        refine Wp.seq ?_
        refine Wp.region ?_
        refine Wo.pre 1 (by kernel_rfl) ?_
        refine Wo.call (by kernel_rfl) (by kernel_rfl) (c1) ?_
        refine Wo.pre 1 (by kernel_rfl) ?_
        refine Wo.pre 1 (by kernel_rfl) ?_
        refine Wo.pre 1 (by kernel_rfl) ?_
        refine Wo.pre 1 (by kernel_rfl) ?_
        refine Wo.pre 1 (by kernel_rfl) ?_
        refine Wo.nil ?_
        refine Wp.seq ?_
        refine Wp.seq ?_
        refine Wp.region ?_
        refine Wo.pre 1 (by kernel_rfl) ?_
        refine Wo.pre 1 (by kernel_rfl) ?_
        refine Wo.nil ?_
        refine Wp.cond false (by kernel_rfl) ?_
        refine Wp.skip ?_
        refine Wp.region ?_
        refine Wo.pre 1 (by kernel_rfl) ?_
        refine Wo.pre 1 (by kernel_rfl) ?_
        refine Wo.val _ H2 (by kernel_rfl) (b2 (by kernel_rfl)) ?_
        refine Wo.val l' H3 (by kernel_rfl) (iop_appG (v := lV) (w := .sl ⟨h1.n, 0, 0⟩ 1 (.ex 1)) (by kernel_rfl) (by kernel_rfl) rfl a3) ?_
        refine Wo.pre 1 (by kernel_rfl) ?_
        refine Wo.nil ?_
        refine ih (vL l 3) (by omega) H3 u' l' _ _ (by rw [List.length_append]; simp only [List.length_cons, List.length_nil]; omega) hR3 hub hE3 hO3 (by kernel_rfl) (by kernel_rfl) (by kernel_rfl) Q (fun ts' h' lV' zs cs q1 q2 q3 q4 q5 q6 => ?_) (fun ts' h' q1 q2 q3 q4 q5 => hQ' ts' h' (by rw [cutN_good hl he, q1]; rfl) q2 q3 q4 q5)
        exact hQ ts' h' lV' zs (vX l 3 :: cs) (by rw [cutN_good hl he, q1]; rfl) q2 q3 (by rw [q4]; simp [says]) q5 q6
      · rw [he] at c1
        refine Wp.loop ?_
        rw [laid_eq t0 [(6, lV), (7, .ptr ⟨rb, 0, 0⟩)] (by simp [t6, t7])]
        unfold l83_1
        refine Wp.seq ?_
        refine Wp.seq ?_
        refine Wp.region ?_
        refine Wo.pre 1 (by kernel_rfl) ?_
        refine Wo.call (by kernel_rfl) (by kernel_rfl) ((left_run hR)) ?_
        refine Wo.val (.bool true) h (by kernel_rfl) (iop_cmp (op := .gtr) (k := .i64) (a := l.length) (b := 0) true (by kernel_rfl) (by kernel_rfl) (by simp) (by simp [binInt, hpos])) ?_
        refine Wo.nil ?_
        refine Wp.cond true (by kernel_rfl) ?_
        refine Wp.skip ?_
        refine Wp.block ?_
        refine Wp.seq ?_
        refine Wp.region ?_
        refine Wo.pre 1 (by kernel_rfl) ?_
        refine Wo.call (by kernel_rfl) (by kernel_rfl) (c1) ?_
        refine Wo.pre 1 (by kernel_rfl) ?_
        refine Wo.pre 1 (by kernel_rfl) ?_
        refine Wo.pre 1 (by kernel_rfl) ?_
        refine Wo.pre 1 (by kernel_rfl) ?_
        refine Wo.pre 1 (by kernel_rfl) ?_
        refine Wo.nil ?_
        refine Wp.seq ?_
        refine Wp.seq ?_
        refine Wp.region ?_
        refine Wo.pre 1 (by kernel_rfl) ?_
        refine Wo.pre 1 (by kernel_rfl) ?_
        refine Wo.nil ?_
        refine Wp.cond true (by kernel_rfl) ?_
        refine Wp.seq ?_
        refine Wp.region ?_
        refine Wo.pre 1 (by kernel_rfl) ?_
        refine Wo.pre 1 (by kernel_rfl) ?_
        refine Wo.pre 1 (by kernel_rfl) ?_
        refine Wo.nil ?_
        exact Wp.ret (hQ' _ _ (cutN_bad hl he) hE1' (by kernel_rfl) (by kernel_rfl) (by kernel_rfl))

theorem certP_bad {l : List UInt8} (h : vE l 3 = 4) : certP l = none := by rw [certP, if_neg (by rw [h]; decide)]
theorem certP_good {l : List UInt8} (h : vE l 3 = 0) : certP l = cutN (vX l 3).length (vX l 3) := by rw [certP, if_pos h]; rfl

set_option maxHeartbeats 2000000 in
theorem certs_run {h : H} {b : Nat} {v : AV} {l : List UInt8} (hR : Rd h b v l) (hl : l.length ≤ maxRow) :
    ∃ r h', Runs TF 83 [.ptr ⟨b, 0, 0⟩] h r h' ∧ ∃ z E v', r = .tup [z, .int .i64 E] ∧ Rd h' b v' (vL l 3) ∧ ExtB b h h' ∧ SB v v' ∧ ((certP l = none ∧ E = 4 ∧ z = .nils) ∨ ∃ ps, certP l = some (says ps) ∧ E = 0 ∧ OwnCh h.n h' z ps) := by
  have hmx : 200000000000000 = maxRow := rfl
  refine Runs.ofP f83 rfl ?_
  obtain ⟨h1, x, v', c1, hR1, hx, hE1, hs⟩ := vec_any hR 3 hl
  rcases vE3 l with he | he
  · rw [he] at c1
    have hlt := vX3_lt l
    obtain ⟨p, h2, c2, rb, u, rfl, hrb, hR2, hX2, hu, hub⟩ := new_run hx.bs (by omega)
    have k1 := hE1.1
    have k2 := hX2.1
    have hb1 := hR1.1
    refine Wp.seq ?_
    refine Wp.region ?_
    refine Wo.pre 8 (by kernel_rfl) ?_
    refine Wo.nil ?_
    refine Wp.seq ?_
    refine Wp.region ?_
    refine Wo.pre 1 (by kernel_rfl) ?_
    refine Wo.call (by kernel_rfl) (by kernel_rfl) (c1) ?_
    refine Wo.pre 8 (by kernel_rfl) ?_
    refine Wo.nil ?_
    refine Wp.seq ?_
    refine Wp.seq ?_
    refine Wp.region ?_
    refine Wo.pre 8 (by kernel_rfl) ?_
    refine Wo.nil ?_
    refine Wp.cond false (by kernel_rfl) ?_
    refine Wp.skip ?_
    refine Wp.seq ?_
    refine Wp.region ?_
    refine Wo.pre 8 (by kernel_rfl) ?_
    refine Wo.nil ?_
    refine Wp.seq ?_
    refine Wp.seq ?_
    refine Wp.region ?_
    refine Wo.pre 1 (by kernel_rfl) ?_
    refine Wo.call (by kernel_rfl) (by kernel_rfl) (c2) ?_
    refine Wo.pre 8 (by kernel_rfl) ?_
    refine Wo.nil ?_
    refine Wp.block ?_
    refine certs_loop hR2.1 (u0 := u) (fun a n c e => hR2.2.2.1.lt e) (vX l 3).length (vX l 3) (Nat.le_refl _) h2 u .nils [] _ (by simp; omega) hR2 (SB.refl _) (Ext.b (Ext.refl _) _) ⟨.inl ⟨rfl, rfl, rfl⟩, fun p hp => by simp at hp⟩ (by kernel_rfl) (by kernel_rfl) (by kernel_rfl) _ (fun ts' h' lV' zs cs q1 q2 q3 q4 q5 q6 => ?_) (fun ts' h' q1 q2 q3 q4 q5 => ?_)
    · have hR' : Rd h' b v' (vL l 3) := hR1.keep (by have := q2.1; omega) (by rw [q2.2 b (by omega) (by omega)]; exact hX2.2 b hb1) (fun a n c e => by
        have := hR1.2.2.1.lt e
        rw [q2.2 a.b (by omega) (by omega)]; exact hX2.2 a.b this)
      have hE' : ExtB b h h' := ⟨by have := q2.1; omega, fun k hk hkb => by rw [q2.2 k (by omega) (by omega), hX2.2 k (by omega)]; exact hE1.2 k hk hkb⟩
      rw [laid_eq q5 [(6, lV')] (by simp [q6])]
      refine Wp.seq ?_
      refine Wp.region ?_
      refine Wo.pre 8 (by kernel_rfl) ?_
      refine Wo.nil ?_
      exact Wp.ret ⟨.inr rfl, _, (by kernel_rfl), lV', 0, v', rfl, hR', hE', hs, .inr ⟨zs, by rw [certP_good he, q1, q4]; rfl, rfl, q3.mono (by omega)⟩⟩
    · have hR' : Rd h' b v' (vL l 3) := hR1.keep (by have := q2.1; omega) (by rw [q2.2 b (by omega) (by omega)]; exact hX2.2 b hb1) (fun a n c e => by
        have := hR1.2.2.1.lt e
        rw [q2.2 a.b (by omega) (by omega)]; exact hX2.2 a.b this)
      have hE' : ExtB b h h' := ⟨by have := q2.1; omega, fun k hk hkb => by rw [q2.2 k (by omega) (by omega), hX2.2 k (by omega)]; exact hE1.2 k hk hkb⟩
      refine ⟨.inr rfl, .tup [.nils, .int .i64 4], ?_, .nils, 4, v', rfl, hR', hE', hs, .inl ⟨by rw [certP_good he, q1], rfl, rfl⟩⟩
      simp [retV, resOf, iop, ev, q4, q5]
  · rw [he] at c1
    refine Wp.seq ?_
    refine Wp.region ?_
    refine Wo.pre 8 (by kernel_rfl) ?_
    refine Wo.nil ?_
    refine Wp.seq ?_
    refine Wp.region ?_
    refine Wo.pre 1 (by kernel_rfl) ?_
    refine Wo.call (by kernel_rfl) (by kernel_rfl) (c1) ?_
    refine Wo.pre 8 (by kernel_rfl) ?_
    refine Wo.nil ?_
    refine Wp.seq ?_
    refine Wp.seq ?_
    refine Wp.region ?_
    refine Wo.pre 8 (by kernel_rfl) ?_
    refine Wo.nil ?_
    refine Wp.cond true (by kernel_rfl) ?_
    refine Wp.seq ?_
    refine Wp.region ?_
    refine Wo.pre 8 (by kernel_rfl) ?_
    refine Wo.nil ?_
    exact Wp.ret ⟨.inr rfl, _, (by kernel_rfl), .nils, 4, v', rfl, hR1, hE1, hs, .inl ⟨certP_bad he, rfl, rfl⟩⟩

theorem certR_more {l : List UInt8} (h : vL l 3 ≠ []) : certR l = none := by rw [certR, if_neg h]
end Go.Det

/- Records read: the walks. -/
set_option linter.unusedVariables false
set_option linter.unusedSimpArgs false
set_option linter.unusedSectionVars false
namespace Go.Det
open Go.Proofs
attribute [local irreducible] Wp Wo Wd iop ev slots quiets wanted put

/-- A block of two cells is filled anew. -/
theorem fill2 {h : H} {b ty : Nat} {z1 z2 x y : AV} (g : h.get b = some (.cells 0 ty [z1, z2] 0 false)) (hx : x.one = true) (hy : y.one = true) :
    ∃ h', (∀ {u w : IX} {ρ : IX → AV}, ρ u = .ptr ⟨b, 0, 0⟩ → ρ w = .agg [x, y] → iop (.st 2 u w) ρ h = some (.val .undef h')) ∧ h'.get b = some (.cells 0 ty [x, y] 0 false) ∧ (∀ c, c ≠ b → h'.get c = h.get c) ∧ h'.n = h.n := by
  refine ⟨h.set b (.cells 0 ty [x, y] 0 false), fun hu hw => iop_stA (a := ⟨b, 0, 0⟩) (cs := [x, y]) hu hw rfl ?_, h.get_set _ _, fun c hc => h.get_set_ne _ c _ hc, rfl⟩
  unfold H.st
  simp only [g]
  rw [if_pos (by simp [hx, hy])]
  rfl

theorem iop_build2 {z1 z2 : AV} {x y : IX} {ρ : IX → AV} {h : H} {a b : AV} (hx : ρ x = a) (hy : ρ y = b) (ha : a.cells = [a]) (hb : b.cells = [b]) : iop (.build [z1, z2] [(0, 1, x), (1, 1, y)]) ρ h = some (.val (.agg [a, b]) h) := by
  simp [iop, fillL, hx, hy, ha, hb, putAt]

theorem OwnCh.none {lo : Nat} {h : H} : OwnCh lo h .nils [] := ⟨.inl ⟨rfl, rfl, rfl⟩, fun p hp => by simp at hp⟩

theorem cutN_few {k : Nat} {l : List UInt8} {cs : List (List UInt8)} (h : cutN k l = some cs) (hl : l.length < 16777216) : cs.length < 16777216 := by
  have h1 := cut_dec _ _ _ h
  have h2 := innerS_len cs
  rw [h1] at h2
  omega
theorem certP_few {l : List UInt8} {cs : List (List UInt8)} (h : certP l = some cs) : cs.length < 16777216 := by
  unfold certP at h
  split at h
  · exact cutN_few h (vX3_lt l)
  · cases h
theorem certR_of {l : List UInt8} (h : vL l 3 = []) : certR l = certP l := by rw [certR, if_pos h]

theorem rd8_bad {l : List UInt8} (h : ¬ 8 ≤ l.length) : rdE l 8 = 4 := by
  unfold rdE; rw [if_neg (by decide), if_pos (by omega)]
theorem rd8_good {l : List UInt8} (h : 8 ≤ l.length) : rdE l 8 = 0 ∧ rdV l 8 = be (l.take 8) ∧ rdL l 8 = l.drop 8 := by
  have e : rdE l 8 = 0 := by unfold rdE; rw [if_neg (by decide), if_neg (by omega)]
  exact ⟨e, by rw [rdV, if_pos e]; rfl, by rw [rdL, if_pos e]; rfl⟩

set_option maxHeartbeats 4000000 in
theorem takerec_run {h : H} {y : AV} {l : List UInt8} (hy : Bs h y l) (hl : l.length ≤ maxRow) : ∃ r h', Runs TF 54 [y] h r h' ∧ ∃ t z ps E, r = .tup [entV t z, .int .i64 E] ∧ Ext h h' ∧ OwnCh h.n h' z ps ∧ recOf l = (t, says ps, E) := by
  refine Runs.ofP f54 rfl ?_
  have hmx : 200000000000000 = maxRow := rfl
  have o3 : ∀ k i, (AV.int k i).one = true := fun _ _ => rfl
  obtain ⟨H1, hH1⟩ : ∃ H1, H1 = h.new (.cells 0 70 [.int .u64 0, .nils] 0 false) := ⟨_, rfl⟩
  have X1 : Ext h H1 := by rw [hH1]; exact Ext.new _ _
  have n1 : h.n < H1.n := by rw [hH1]; simp
  have g1 : H1.get h.n = some (.cells 0 70 [.int .u64 0, .nils] 0 false) := by rw [hH1]; exact h.get_new _
  have en1 : ∀ ts, iop (.new 70 (.c (.agg [.int .u64 0, .nils]))) (ev ts) h = some (.val (.ptr ⟨h.n, 0, 0⟩) H1) := fun ts => by rw [hH1]; exact iop_new (by kernel_rfl) rfl
  obtain ⟨p, H2, c2, rb, u, rfl, hrb, hR2, X2, hu, hub⟩ := new_run (hy.ext X1) hl
  obtain ⟨H3, u3, c3, hR3, E3, s3⟩ := rdnum_any hR2 8 hl
  have m1 := X1.1
  have m2 := X2.1
  have m3 := E3.1
  have k3 : ∀ b, b < H1.n → H3.get b = H1.get b := fun b hb => by rw [E3.2 b (by omega) (by omega)]; exact X2.2 b hb
  by_cases h8 : 8 ≤ l.length
  · obtain ⟨e1, e2, e3⟩ := rd8_good h8
    rw [e1, e2] at c3
    rw [e3] at hR3
    have hd8 : (l.drop 8).length ≤ maxRow := by rw [List.length_drop]; omega
    obtain ⟨r4, H4, c4, z, E, u4, rfl, hR4, E4, s4, hz⟩ := certs_run hR3 hd8
    have m4 := E4.1
    have k4 : ∀ b, b < H1.n → H4.get b = H1.get b := fun b hb => by rw [E4.2 b (by omega) (by omega)]; exact k3 b hb
    rcases hz with ⟨q1, rfl, rfl⟩ | ⟨ps, q1, rfl, q3⟩
    · obtain ⟨H5a, H5, X5, n5, g5, en5, st5, _, _⟩ := made2 (h := H4) 70 (z1 := .int .u64 0) (z2 := .nils) (x := .int .u64 (be (l.take 8) : Nat)) (y := .nils) rfl rfl rfl
      have m5 := X5.1
      have gz : H5.get h.n = some (.cells 0 70 [.int .u64 0, .nils] 0 false) := by rw [X5.2 _ (by omega), k4 _ n1]; exact g1
      obtain ⟨Hz, sz, gz', kz, nz⟩ := fill2 (x := .int .u64 0) (y := .nils) gz rfl rfl
      have LA : Hz.ldg ⟨h.n, 0, 0⟩ (some 2) = some (entV 0 .nils) := (ld_two gz').1
      refine Wp.seq ?_
      refine Wp.region ?_
      refine Wo.val _ _ (by kernel_rfl) (en1 _) ?_
      refine Wo.pre 8 (by kernel_rfl) ?_
      refine Wo.nil ?_
      refine Wp.seq ?_
      refine Wp.region ?_
      refine Wo.pre 1 (by kernel_rfl) ?_
      refine Wo.call (by kernel_rfl) (by kernel_rfl) (c2) ?_
      refine Wo.pre 8 (by kernel_rfl) ?_
      refine Wo.nil ?_
      refine Wp.seq ?_
      refine Wp.region ?_
      refine Wo.pre 1 (by kernel_rfl) ?_
      refine Wo.call (by kernel_rfl) (by kernel_rfl) (c3) ?_
      refine Wo.pre 8 (by kernel_rfl) ?_
      refine Wo.nil ?_
      refine Wp.seq ?_
      refine Wp.seq ?_
      refine Wp.region ?_
      refine Wo.pre 8 (by kernel_rfl) ?_
      refine Wo.nil ?_
      refine Wp.cond false (by kernel_rfl) ?_
      refine Wp.skip ?_
      refine Wp.seq ?_
      refine Wp.region ?_
      refine Wo.pre 1 (by kernel_rfl) ?_
      refine Wo.call (by kernel_rfl) (by kernel_rfl) (c4) ?_
      refine Wo.pre 8 (by kernel_rfl) ?_
      refine Wo.nil ?_
      refine Wp.seq ?_
      refine Wp.region ?_
      refine Wo.pre 3 (by kernel_rfl) ?_
      refine Wo.val _ _ (by kernel_rfl) (en5 (by kernel_rfl)) ?_
      refine Wo.val _ _ (by kernel_rfl) (st5 (by kernel_rfl) (by kernel_rfl)) ?_
      refine Wo.nil ?_
      refine Wp.seq ?_
      refine Wp.seq ?_
      refine Wp.region ?_
      refine Wo.pre 8 (by kernel_rfl) ?_
      refine Wo.pre 8 (by kernel_rfl) ?_
      refine Wo.nil ?_
      refine Wp.cond true (by kernel_rfl) ?_
      refine Wp.seq ?_
      refine Wp.region ?_
      refine Wo.pre 1 (by kernel_rfl) ?_
      refine Wo.val .undef Hz (by kernel_rfl) (sz (by kernel_rfl) (by kernel_rfl)) ?_
      refine Wo.pre 8 (by kernel_rfl) ?_
      refine Wo.nil ?_
      exact Wp.ret ⟨.inr rfl, _, retI LA (by kernel_rfl) (by kernel_rfl), 0, .nils, [], 5, rfl, ⟨by rw [nz]; omega, fun b hb => by rw [kz b (by omega)]; rw [X5.2 b (by omega), k4 b (by omega)]; exact X1.2 b hb⟩, OwnCh.none, rec_none h8 (by unfold certR; split; exact q1; rfl)⟩
    · have pz := q3.ch.parts
      obtain ⟨H5a, H5, X5, n5, g5, en5, st5, _, _⟩ := made2 (h := H4) 70 (z1 := .int .u64 0) (z2 := .nils) (x := .int .u64 (be (l.take 8) : Nat)) (y := z) rfl rfl pz.2.1
      have m5 := X5.1
      have hfew : ps.length < 16777216 := by have := certP_few q1; rw [says_len] at this; exact this
      have hR5 : Rd H5 rb u4 (vL (l.drop 8) 3) := hR4.keep m5 (X5.2 _ hR4.1) (fun a n c e => X5.2 _ (hR4.2.2.1.lt e))
      by_cases hm : vL (l.drop 8) 3 = []
      · rw [hm] at hR5
        obtain ⟨r6, H6, c6, rfl, X6⟩ := may_run (q3.ch.ext X5) (by omega) (be (l.take 8))
        have m6 := X6.1
        have l5 := ld_two g5
        have l6 := ld_two ((X6.2 _ (by omega)).trans g5)
        have gz6 : H6.get h.n = some (.cells 0 70 [.int .u64 0, .nils] 0 false) := by rw [X6.2 _ (by omega), X5.2 _ (by omega), k4 _ n1]; exact g1
        by_cases hmay : mayE ps = true
        · rw [hmay] at c6
          obtain ⟨H7, s7, g7, k7, n7⟩ := fill2 (x := .int .u64 (be (l.take 8) : Nat)) (y := z) gz6 rfl pz.2.1
          have LA : H7.ldg ⟨h.n, 0, 0⟩ (some 2) = some (entV (be (l.take 8)) z) := (ld_two g7).1
          refine Wp.seq ?_
          refine Wp.region ?_
          refine Wo.val _ _ (by kernel_rfl) (en1 _) ?_
          refine Wo.pre 1 (by kernel_rfl) ?_
          refine Wo.nil ?_
          refine Wp.seq ?_
          refine Wp.region ?_
          refine Wo.pre 1 (by kernel_rfl) ?_
          refine Wo.call (by kernel_rfl) (by kernel_rfl) (c2) ?_
          refine Wo.pre 1 (by kernel_rfl) ?_
          refine Wo.nil ?_
          refine Wp.seq ?_
          refine Wp.region ?_
          refine Wo.pre 1 (by kernel_rfl) ?_
          refine Wo.call (by kernel_rfl) (by kernel_rfl) (c3) ?_
          refine Wo.pre 1 (by kernel_rfl) ?_
          refine Wo.pre 1 (by kernel_rfl) ?_
          refine Wo.pre 1 (by kernel_rfl) ?_
          refine Wo.pre 1 (by kernel_rfl) ?_
          refine Wo.pre 1 (by kernel_rfl) ?_
          refine Wo.nil ?_
          refine Wp.seq ?_
          refine Wp.seq ?_
          refine Wp.region ?_
          refine Wo.pre 1 (by kernel_rfl) ?_
          refine Wo.pre 1 (by kernel_rfl) ?_
          refine Wo.nil ?_
          refine Wp.cond false (by kernel_rfl) ?_
          refine Wp.skip ?_
          refine Wp.seq ?_
          refine Wp.region ?_
          refine Wo.pre 1 (by kernel_rfl) ?_
          refine Wo.call (by kernel_rfl) (by kernel_rfl) (c4) ?_
          refine Wo.pre 1 (by kernel_rfl) ?_
          refine Wo.pre 1 (by kernel_rfl) ?_
          refine Wo.pre 1 (by kernel_rfl) ?_
          refine Wo.pre 1 (by kernel_rfl) ?_
          refine Wo.pre 1 (by kernel_rfl) ?_
          refine Wo.nil ?_
          refine Wp.seq ?_
          refine Wp.region ?_
          refine Wo.pre 1 (by kernel_rfl) ?_
          refine Wo.pre 1 (by kernel_rfl) ?_
          refine Wo.val _ _ (by kernel_rfl) (iop_build2 (a := .int .u64 (be (l.take 8) : Nat)) (b := z) (by kernel_rfl) (by kernel_rfl) rfl pz.1) ?_
          refine Wo.val _ _ (by kernel_rfl) (en5 (by kernel_rfl)) ?_
          refine Wo.val _ _ (by kernel_rfl) (st5 (by kernel_rfl) (by kernel_rfl)) ?_
          refine Wo.nil ?_
          refine Wp.seq ?_
          refine Wp.seq ?_
          refine Wp.region ?_
          refine Wo.pre 1 (by kernel_rfl) ?_
          refine Wo.pre 1 (by kernel_rfl) ?_
          refine Wo.pre 1 (by kernel_rfl) ?_
          refine Wo.pre 1 (by kernel_rfl) ?_
          refine Wo.call (by kernel_rfl) (by kernel_rfl) ((left_run hR5)) ?_
          refine Wo.val (.bool false) H5 (by kernel_rfl) (iop_cmp (op := .gtr) (k := .i64) (a := ([] : List UInt8).length) (b := 0) false (by kernel_rfl) (by kernel_rfl) (by simp) (by simp [binInt])) ?_
          refine Wo.pre 1 (by kernel_rfl) ?_
          refine Wo.pre 1 (by kernel_rfl) ?_
          refine Wo.val (entV (be (l.take 8)) z) H5 (by kernel_rfl) (iop_ld (a := ⟨H4.n, 0, 0⟩) (by kernel_rfl) l5.1) ?_
          refine Wo.call (by kernel_rfl) (by kernel_rfl) (c6) ?_
          refine Wo.pre 1 (by kernel_rfl) ?_
          refine Wo.pre 1 (by kernel_rfl) ?_
          refine Wo.nil ?_
          refine Wp.cond false (by kernel_rfl) ?_
          refine Wp.skip ?_
          refine Wp.seq ?_
          refine Wp.region ?_
          refine Wo.val (entV (be (l.take 8)) z) H6 (by kernel_rfl) (iop_ld (a := ⟨H4.n, 0, 0⟩) (by kernel_rfl) l6.1) ?_
          refine Wo.val .undef H7 (by kernel_rfl) (s7 (by kernel_rfl) (by kernel_rfl)) ?_
          refine Wo.pre 1 (by kernel_rfl) ?_
          refine Wo.nil ?_
          exact Wp.ret ⟨.inr rfl, _, retI LA (by kernel_rfl) (by kernel_rfl), be (l.take 8), z, ps, 0, rfl, ⟨by rw [n7]; omega, fun b hb => by rw [k7 b (by omega), X6.2 b (by omega), X5.2 b (by omega), k4 b (by omega)]; exact X1.2 b hb⟩, (((q3.ext X5).ext X6).keepB (rb := h.n) (by omega) ⟨by omega, fun k _ hk => k7 k hk⟩).mono (by omega), rec_may h8 (by rw [certR_of hm]; exact q1) (by rw [← may_says]; exact hmay)⟩
        · have hmay' : mayE ps = false := by simpa using hmay
          rw [hmay'] at c6
          have gz : H6.get h.n = some (.cells 0 70 [.int .u64 0, .nils] 0 false) := gz6
          obtain ⟨Hz, sz, gz', kz, nz⟩ := fill2 (x := .int .u64 0) (y := .nils) gz rfl rfl
          have LA : Hz.ldg ⟨h.n, 0, 0⟩ (some 2) = some (entV 0 .nils) := (ld_two gz').1
          refine Wp.seq ?_
          refine Wp.region ?_
          refine Wo.val _ _ (by kernel_rfl) (en1 _) ?_
          refine Wo.pre 1 (by kernel_rfl) ?_
          refine Wo.nil ?_
          refine Wp.seq ?_
          refine Wp.region ?_
          refine Wo.pre 1 (by kernel_rfl) ?_
          refine Wo.call (by kernel_rfl) (by kernel_rfl) (c2) ?_
          refine Wo.pre 1 (by kernel_rfl) ?_
          refine Wo.nil ?_
          refine Wp.seq ?_
          refine Wp.region ?_
          refine Wo.pre 1 (by kernel_rfl) ?_
          refine Wo.call (by kernel_rfl) (by kernel_rfl) (c3) ?_
          refine Wo.pre 1 (by kernel_rfl) ?_
          refine Wo.pre 1 (by kernel_rfl) ?_
          refine Wo.pre 1 (by kernel_rfl) ?_
          refine Wo.pre 1 (by kernel_rfl) ?_
          refine Wo.pre 1 (by kernel_rfl) ?_
          refine Wo.nil ?_
          refine Wp.seq ?_
          refine Wp.seq ?_
          refine Wp.region ?_
          refine Wo.pre 1 (by kernel_rfl) ?_
          refine Wo.pre 1 (by kernel_rfl) ?_
          refine Wo.nil ?_
          refine Wp.cond false (by kernel_rfl) ?_
          refine Wp.skip ?_
          refine Wp.seq ?_
          refine Wp.region ?_
          refine Wo.pre 1 (by kernel_rfl) ?_
          refine Wo.call (by kernel_rfl) (by kernel_rfl) (c4) ?_
          refine Wo.pre 1 (by kernel_rfl) ?_
          refine Wo.pre 1 (by kernel_rfl) ?_
          refine Wo.pre 1 (by kernel_rfl) ?_
          refine Wo.pre 1 (by kernel_rfl) ?_
          refine Wo.pre 1 (by kernel_rfl) ?_
          refine Wo.nil ?_
          refine Wp.seq ?_
          refine Wp.region ?_
          refine Wo.pre 1 (by kernel_rfl) ?_
          refine Wo.pre 1 (by kernel_rfl) ?_
          refine Wo.val _ _ (by kernel_rfl) (iop_build2 (a := .int .u64 (be (l.take 8) : Nat)) (b := z) (by kernel_rfl) (by kernel_rfl) rfl pz.1) ?_
          refine Wo.val _ _ (by kernel_rfl) (en5 (by kernel_rfl)) ?_
          refine Wo.val _ _ (by kernel_rfl) (st5 (by kernel_rfl) (by kernel_rfl)) ?_
          refine Wo.nil ?_
          refine Wp.seq ?_
          refine Wp.seq ?_
          refine Wp.region ?_
          refine Wo.pre 1 (by kernel_rfl) ?_
          refine Wo.pre 1 (by kernel_rfl) ?_
          refine Wo.pre 1 (by kernel_rfl) ?_
          refine Wo.pre 1 (by kernel_rfl) ?_
          refine Wo.call (by kernel_rfl) (by kernel_rfl) ((left_run hR5)) ?_
          refine Wo.val (.bool false) H5 (by kernel_rfl) (iop_cmp (op := .gtr) (k := .i64) (a := ([] : List UInt8).length) (b := 0) false (by kernel_rfl) (by kernel_rfl) (by simp) (by simp [binInt])) ?_
          refine Wo.pre 1 (by kernel_rfl) ?_
          refine Wo.pre 1 (by kernel_rfl) ?_
          refine Wo.val (entV (be (l.take 8)) z) H5 (by kernel_rfl) (iop_ld (a := ⟨H4.n, 0, 0⟩) (by kernel_rfl) l5.1) ?_
          refine Wo.call (by kernel_rfl) (by kernel_rfl) (c6) ?_
          refine Wo.pre 1 (by kernel_rfl) ?_
          refine Wo.pre 1 (by kernel_rfl) ?_
          refine Wo.nil ?_
          refine Wp.cond true (by kernel_rfl) ?_
          refine Wp.seq ?_
          refine Wp.region ?_
          refine Wo.pre 1 (by kernel_rfl) ?_
          refine Wo.val .undef Hz (by kernel_rfl) (sz (by kernel_rfl) (by kernel_rfl)) ?_
          refine Wo.pre 1 (by kernel_rfl) ?_
          refine Wo.nil ?_
          exact Wp.ret ⟨.inr rfl, _, retI LA (by kernel_rfl) (by kernel_rfl), 0, .nils, [], 5, rfl, ⟨by rw [nz]; omega, fun b hb => by rw [kz b (by omega)]; rw [X6.2 b (by omega), X5.2 b (by omega), k4 b (by omega)]; exact X1.2 b hb⟩, OwnCh.none, rec_not h8 (by rw [certR_of hm]; exact q1) (by rw [← may_says]; exact hmay)⟩
      · have hpos : 0 < (vL (l.drop 8) 3).length := List.length_pos_iff.2 hm
        have gz : H5.get h.n = some (.cells 0 70 [.int .u64 0, .nils] 0 false) := by rw [X5.2 _ (by omega), k4 _ n1]; exact g1
        obtain ⟨Hz, sz, gz', kz, nz⟩ := fill2 (x := .int .u64 0) (y := .nils) gz rfl rfl
        have LA : Hz.ldg ⟨h.n, 0, 0⟩ (some 2) = some (entV 0 .nils) := (ld_two gz').1
        refine Wp.seq ?_
        refine Wp.region ?_
        refine Wo.val _ _ (by kernel_rfl) (en1 _) ?_
        refine Wo.pre 1 (by kernel_rfl) ?_
        refine Wo.nil ?_
        refine Wp.seq ?_
        refine Wp.region ?_
        refine Wo.pre 1 (by kernel_rfl) ?_
        refine Wo.call (by kernel_rfl) (by kernel_rfl) (c2) ?_
        refine Wo.pre 1 (by kernel_rfl) ?_
        refine Wo.nil ?_
        refine Wp.seq ?_
        refine Wp.region ?_
        refine Wo.pre 1 (by kernel_rfl) ?_
        refine Wo.call (by kernel_rfl) (by kernel_rfl) (c3) ?_
        refine Wo.pre 1 (by kernel_rfl) ?_
        refine Wo.pre 1 (by kernel_rfl) ?_
        refine Wo.pre 1 (by kernel_rfl) ?_
        refine Wo.pre 1 (by kernel_rfl) ?_
        refine Wo.pre 1 (by kernel_rfl) ?_
        refine Wo.nil ?_
        refine Wp.seq ?_
        refine Wp.seq ?_
        refine Wp.region ?_
        refine Wo.pre 1 (by kernel_rfl) ?_
        refine Wo.pre 1 (by kernel_rfl) ?_
        refine Wo.nil ?_
        refine Wp.cond false (by kernel_rfl) ?_
        refine Wp.skip ?_
        refine Wp.seq ?_
        refine Wp.region ?_
        refine Wo.pre 1 (by kernel_rfl) ?_
        refine Wo.call (by kernel_rfl) (by kernel_rfl) (c4) ?_
        refine Wo.pre 1 (by kernel_rfl) ?_
        refine Wo.pre 1 (by kernel_rfl) ?_
        refine Wo.pre 1 (by kernel_rfl) ?_
        refine Wo.pre 1 (by kernel_rfl) ?_
        refine Wo.pre 1 (by kernel_rfl) ?_
        refine Wo.nil ?_
        refine Wp.seq ?_
        refine Wp.region ?_
        refine Wo.pre 1 (by kernel_rfl) ?_
        refine Wo.pre 1 (by kernel_rfl) ?_
        refine Wo.val _ _ (by kernel_rfl) (iop_build2 (a := .int .u64 (be (l.take 8) : Nat)) (b := z) (by kernel_rfl) (by kernel_rfl) rfl pz.1) ?_
        refine Wo.val _ _ (by kernel_rfl) (en5 (by kernel_rfl)) ?_
        refine Wo.val _ _ (by kernel_rfl) (st5 (by kernel_rfl) (by kernel_rfl)) ?_
        refine Wo.nil ?_
        refine Wp.seq ?_
        refine Wp.seq ?_
        refine Wp.region ?_
        refine Wo.pre 1 (by kernel_rfl) ?_
        refine Wo.pre 1 (by kernel_rfl) ?_
        refine Wo.pre 1 (by kernel_rfl) ?_
        refine Wo.pre 1 (by kernel_rfl) ?_
        refine Wo.call (by kernel_rfl) (by kernel_rfl) ((left_run hR5)) ?_
        refine Wo.val (.bool true) H5 (by kernel_rfl) (iop_cmp (op := .gtr) (k := .i64) (a := (vL (l.drop 8) 3).length) (b := 0) true (by kernel_rfl) (by kernel_rfl) (by simp) (by simp [binInt, hpos])) ?_
        refine Wo.pre 1 (by kernel_rfl) ?_
        refine Wo.pre 1 (by kernel_rfl) ?_
        refine Wo.pre 1 (by kernel_rfl) ?_
        refine Wo.pre 1 (by kernel_rfl) ?_
        refine Wo.pre 1 (by kernel_rfl) ?_
        refine Wo.pre 1 (by kernel_rfl) ?_
        refine Wo.nil ?_
        refine Wp.cond true (by kernel_rfl) ?_
        refine Wp.seq ?_
        refine Wp.region ?_
        refine Wo.pre 1 (by kernel_rfl) ?_
        refine Wo.val .undef Hz (by kernel_rfl) (sz (by kernel_rfl) (by kernel_rfl)) ?_
        refine Wo.pre 1 (by kernel_rfl) ?_
        refine Wo.nil ?_
        exact Wp.ret ⟨.inr rfl, _, retI LA (by kernel_rfl) (by kernel_rfl), 0, .nils, [], 5, rfl, ⟨by rw [nz]; omega, fun b hb => by rw [kz b (by omega)]; rw [X5.2 b (by omega), k4 b (by omega)]; exact X1.2 b hb⟩, OwnCh.none, rec_none h8 (certR_more hm)⟩
  · rw [rd8_bad h8] at c3
    have gz : H3.get h.n = some (.cells 0 70 [.int .u64 0, .nils] 0 false) := by rw [k3 _ n1]; exact g1
    obtain ⟨Hz, sz, gz', kz, nz⟩ := fill2 (x := .int .u64 0) (y := .nils) gz rfl rfl
    have LA : Hz.ldg ⟨h.n, 0, 0⟩ (some 2) = some (entV 0 .nils) := (ld_two gz').1
    refine Wp.seq ?_
    refine Wp.region ?_
    refine Wo.val _ _ (by kernel_rfl) (en1 _) ?_
    refine Wo.pre 8 (by kernel_rfl) ?_
    refine Wo.nil ?_
    refine Wp.seq ?_
    refine Wp.region ?_
    refine Wo.pre 1 (by kernel_rfl) ?_
    refine Wo.call (by kernel_rfl) (by kernel_rfl) (c2) ?_
    refine Wo.pre 8 (by kernel_rfl) ?_
    refine Wo.nil ?_
    refine Wp.seq ?_
    refine Wp.region ?_
    refine Wo.pre 1 (by kernel_rfl) ?_
    refine Wo.call (by kernel_rfl) (by kernel_rfl) (c3) ?_
    refine Wo.pre 8 (by kernel_rfl) ?_
    refine Wo.nil ?_
    refine Wp.seq ?_
    refine Wp.seq ?_
    refine Wp.region ?_
    refine Wo.pre 8 (by kernel_rfl) ?_
    refine Wo.nil ?_
    refine Wp.cond true (by kernel_rfl) ?_
    refine Wp.seq ?_
    refine Wp.region ?_
    refine Wo.pre 1 (by kernel_rfl) ?_
    refine Wo.val .undef Hz (by kernel_rfl) (sz (by kernel_rfl) (by kernel_rfl)) ?_
    refine Wo.pre 8 (by kernel_rfl) ?_
    refine Wo.nil ?_
    exact Wp.ret ⟨.inr rfl, _, retI LA (by kernel_rfl) (by kernel_rfl), 0, .nils, [], 5, rfl, ⟨by rw [nz]; omega, fun b hb => by rw [kz b (by omega)]; rw [k3 b (by omega)]; exact X1.2 b hb⟩, OwnCh.none, rec_bad h8⟩

end Go.Det

/- Items read: the plain law; chains that are appended to. -/
set_option linter.unusedVariables false
set_option linter.unusedSimpArgs false
namespace Go.Det
open Go.Proofs

/-- An item's entry. -/
def itemC (lf : List UInt8) : List UInt8 := (lf.take (lf.length - 2)).drop 15
def itemT (lf : List UInt8) : Nat := be ((lf.take 10).drop 2)
def itemOf (lf ex : List UInt8) : Nat × List (List UInt8) × Int :=
  match (if 17 ≤ lf.length then certR ex else none) with
  | some l => if mayS (itemC lf :: l) = true ∧ leafB (itemT lf) (itemC lf) = lf then (itemT lf, itemC lf :: l, 0) else (0, [], 5)
  | none => (0, [], 5)
/-! Chains that are appended to. -/

def RowK (lo : Nat) (h : H) (v : AV) (cs : List AV) : Prop := (v = .nils ∧ cs = []) ∨ ∃ b g c, lo ≤ b ∧ b < h.n ∧ h.get b = some (.cells g 22 cs 0 false) ∧ v = .sl ⟨b, g, 0⟩ cs.length c ∧ (c = .op 1 ∨ c = .ex cs.length)

theorem Ch.src {h : H} {v : AV} {ys : List (AV × List UInt8)} (c : Ch h v ys) : srcCells h 1 v = some ((ys.map (·.1)).length, ys.map (·.1)) := by
  rcases c.row with ⟨rfl, rfl⟩ | ⟨a, q, rfl, _, h3⟩
  · rfl
  · simp only [srcCells, Nat.mul_one, h3, Option.map_some, List.length_map]

theorem RowK.app {lo : Nat} {h : H} {v w : AV} {cs new : List AV} (o : RowK lo h v cs) (hlo : lo ≤ h.n) (hs : srcCells h 1 w = some (new.length, new)) (h1 : new.all AV.one = true) (hn : cs.length + new.length < 33554432) :
    ∃ v' h', append h 22 1 24 v w = some (.val v' h') ∧ RowK lo h' v' (cs ++ new) ∧ h.n ≤ h'.n ∧ ∀ b, b < h.n → (b < lo ∨ ∀ g c, h.get b ≠ some (.cells g 22 c 0 false)) → h'.get b = h.get b := by
  have hmx : 200000000000000 = maxRow := rfl
  unfold append
  simp only [hs]
  by_cases h0 : new = []
  · subst h0
    rcases o with ⟨rfl, rfl⟩ | ⟨b, g, c, q1, q2, q3, rfl, q4⟩
    · exact ⟨.nils, h, rfl, .inl ⟨rfl, rfl⟩, Nat.le_refl _, fun _ _ _ => rfl⟩
    · exact ⟨_, h, rfl, by rw [List.append_nil]; exact .inr ⟨b, g, c, q1, q2, q3, rfl, q4⟩, Nat.le_refl _, fun _ _ _ => rfl⟩
  · have hpos : 0 < new.length := List.length_pos_iff.2 h0
    have hne : (new.length == 0) = false := by simp [h0]
    have fit : fits (cs.length + new.length) 24 = true := by simp only [fits, Bool.and_eq_true, decide_eq_true_eq]; omega
    have hle : cs.length + new.length ≤ 9223372036854775807 := by omega
    rcases o with ⟨rfl, rfl⟩ | ⟨b, g, c, q1, q2, q3, rfl, q4⟩
    · simp only [List.length_nil, Nat.zero_add] at fit hle
      refine ⟨.sl ⟨h.n, 0, 0⟩ new.length (.op 1), h.new (.cells 0 22 new 0 false), ?_, .inr ⟨h.n, 0, .op 1, hlo, by simp, h.get_new _, rfl, .inl rfl⟩, by simp, fun b hb _ => h.get_new_ne b _ (by omega)⟩
      simp [hne, fit, hle, h1, h0]
    · rcases q4 with rfl | rfl
      · refine ⟨.sl ⟨b, g + 1, 0⟩ (cs.length + new.length) (.op 1), h.set b (.cells (g + 1) 22 (cs ++ new) 0 false), ?_, .inr ⟨b, g + 1, .op 1, q1, q2, h.get_set b _, by rw [List.length_append], .inl rfl⟩, Nat.le_refl _, fun b' hb' hk => ?_⟩
        · simp [hne, fit, hle, h1, h0, q3]
        · have : b' ≠ b := by
            rintro rfl
            rcases hk with hk | hk
            · omega
            · exact hk _ _ q3
          exact h.get_set_ne b b' _ this
      · have hld : h.ldn ⟨b, g, 0⟩ (cs.length * 1) = some cs := by
          unfold H.ldn H.row
          simp only [q3, BEq.rfl, Bool.not_false, Bool.true_or, Bool.and_self, if_true, Nat.mul_one]
          exact cut_all _
        refine ⟨.sl ⟨h.n, 0, 0⟩ (cs.length + new.length) (.op 1), h.new (.cells 0 22 (cs ++ new) 0 false), ?_, .inr ⟨h.n, 0, .op 1, hlo, by simp, h.get_new _, by rw [List.length_append], .inl rfl⟩, by simp, fun b hb _ => h.get_new_ne b _ (by omega)⟩
        rw [Nat.mul_one] at hld
        simp [hne, fit, hle, h1, h0, hld, hpos]

theorem RowK.ch {lo : Nat} {h : H} {v : AV} {ys : List (AV × List UInt8)} (o : RowK lo h v (ys.map (·.1))) (el : ∀ p ∈ ys, Bs h p.1 p.2 ∧ Cok p.1) : Ch h v ys := by
  refine ⟨?_, el, ?_⟩
  · rcases o with ⟨h1, h2⟩ | ⟨b, g, c, h1, h2, h3, h4, h5⟩
    · exact .inl ⟨h1, by simpa using h2⟩
    · refine .inr ⟨⟨b, g, 0⟩, c, by rw [h4, List.length_map], h2, ?_⟩
      unfold H.ldn H.row
      simp only [h3, BEq.rfl, Bool.not_false, Bool.true_or, Bool.and_self, if_true]
      have : ys.length = (ys.map (·.1)).length := by simp
      rw [this]
      exact cut_all _
  · rintro a m c e
    rcases o with ⟨h1, _⟩ | ⟨b, g, q, _, _, _, h4, h5⟩
    · rw [h1] at e; simp at e
    · rw [h4] at e; simp only [AV.sl.injEq] at e
      obtain ⟨_, rfl, rfl⟩ := e
      rcases h5 with h5 | h5
      · exact .inr h5
      · exact .inl ⟨_, h5, by simp⟩
theorem RowK.ext {lo : Nat} {h h' : H} {v : AV} {cs : List AV} (o : RowK lo h v cs) (hx : Ext h h') : RowK lo h' v cs := by
  refine o.imp id ?_
  rintro ⟨b, g, c, h1, h2, h3, h4⟩
  have := hx.1
  exact ⟨b, g, c, h1, by omega, by rw [hx.2 b h2]; exact h3, h4⟩
theorem RowK.keepB {lo rb : Nat} {h h' : H} {v : AV} {cs : List AV} (hlo : rb < lo) (x : ExtB rb h h') (o : RowK lo h v cs) : RowK lo h' v cs := by
  refine o.imp id ?_
  rintro ⟨b, g, c, h1, h2, h3, h4⟩
  have := x.1
  exact ⟨b, g, c, h1, by omega, by rw [x.2 b h2 (by omega)]; exact h3, h4⟩
theorem RowK.mono {lo lo' : Nat} {h : H} {v : AV} {cs : List AV} (o : RowK lo h v cs) (hl : lo' ≤ lo) : RowK lo' h v cs := by
  refine o.imp id ?_
  rintro ⟨b, g, c, h1, h2⟩
  exact ⟨b, g, c, by omega, h2⟩
theorem OwnCh.rowK {lo : Nat} {h : H} {v : AV} {ys : List (AV × List UInt8)} (o : OwnCh lo h v ys) : RowK lo h v (ys.map (·.1)) := by
  rcases o.row with ⟨h1, h2, _⟩ | ⟨b, g, h1, h2, h3, h4, _⟩
  · exact .inl ⟨h1, h2⟩
  · exact .inr ⟨b, g, .op 1, h1, h2, h3, by rw [h4, List.length_map], .inl rfl⟩

/-- A chain of its own, however its row came to be. -/
structure OwnK (lo : Nat) (h : H) (v : AV) (ys : List (AV × List UInt8)) : Prop where
  row : RowK lo h v (ys.map (·.1))
  el : ∀ p ∈ ys, Ow lo h p.1 p.2
theorem OwnCh.k {lo : Nat} {h : H} {v : AV} {ys : List (AV × List UInt8)} (o : OwnCh lo h v ys) : OwnK lo h v ys := ⟨o.rowK, o.el⟩
theorem OwnK.ch {lo : Nat} {h : H} {v : AV} {ys : List (AV × List UInt8)} (o : OwnK lo h v ys) : Ch h v ys := o.row.ch fun p hp => ⟨(o.el p hp).bs, (o.el p hp).cok⟩
theorem OwnK.ext {lo : Nat} {h h' : H} {v : AV} {ys : List (AV × List UInt8)} (o : OwnK lo h v ys) (hx : Ext h h') : OwnK lo h' v ys := ⟨o.row.ext hx, fun p hp => (o.el p hp).ext hx⟩
theorem OwnK.keepB {lo rb : Nat} {h h' : H} {v : AV} {ys : List (AV × List UInt8)} (hlo : rb < lo) (x : ExtB rb h h') (o : OwnK lo h v ys) : OwnK lo h' v ys :=
  ⟨o.row.keepB hlo x, fun p hp => (o.el p hp).keep x.1 (fun b g c h1 h2 _ => x.2 b h2 (by omega))⟩
theorem OwnK.mono {lo lo' : Nat} {h : H} {v : AV} {ys : List (AV × List UInt8)} (o : OwnK lo h v ys) (hl : lo' ≤ lo) : OwnK lo' h v ys := ⟨o.row.mono hl, fun p hp => (o.el p hp).mono hl⟩
theorem OwnK.none {lo : Nat} {h : H} : OwnK lo h .nils [] := OwnCh.none.k
end Go.Det

/- Frames: entries' rows, readers. -/
set_option linter.unusedVariables false
set_option linter.unusedSimpArgs false
set_option linter.unusedSectionVars false
namespace Go.Det
open Go.Proofs

theorem ExtB.fr {b : Nat} {h h' : H} (x : ExtB b h h') : Fr (fun s => s = b + 1) h h' := ⟨x.1, fun k hk hs => x.2 k hk (fun e => hs (by rw [e]))⟩
theorem Ch.fr {h h' : H} {v : AV} {xs : List (AV × List UInt8)} (c : Ch h v xs) {S : Nat → Prop} (x : Fr S h h') (hs : ∀ s, S s → s = 0 ∨ h.n < s) : Ch h' v xs := c.ext (x.ext hs)
theorem Ch.bd {h : H} {v : AV} {xs : List (AV × List UInt8)} (c : Ch h v xs) : blk v ≤ h.n := by
  rcases c.row with ⟨rfl, _⟩ | ⟨a, q, rfl, h2, _⟩
  · exact Nat.zero_le _
  · exact h2
theorem OwnCh.parts {lo : Nat} {h : H} {v : AV} {xs : List (AV × List UInt8)} (c : OwnCh lo h v xs) : v.cells = [v] ∧ v.one = true ∧ isStrV v = false := c.ch.parts
theorem OwnK.parts {lo : Nat} {h : H} {v : AV} {xs : List (AV × List UInt8)} (c : OwnK lo h v xs) : v.cells = [v] ∧ v.one = true ∧ isStrV v = false := c.ch.parts
theorem OwnCh.bd {lo : Nat} {h : H} {v : AV} {xs : List (AV × List UInt8)} (c : OwnCh lo h v xs) : (blk v = 0 ∨ lo < blk v) ∧ blk v ≤ h.n := by
  rcases c.row with ⟨rfl, _⟩ | ⟨b, g, h1, h2, _, rfl, _⟩
  · exact ⟨.inl rfl, Nat.zero_le _⟩
  · exact ⟨.inr (Nat.succ_le_succ h1), h2⟩
theorem OwnK.bd {lo : Nat} {h : H} {v : AV} {xs : List (AV × List UInt8)} (c : OwnK lo h v xs) : (blk v = 0 ∨ lo < blk v) ∧ blk v ≤ h.n := by
  rcases c.row with ⟨rfl, _⟩ | ⟨b, g, _, h1, h2, _, rfl, _⟩
  · exact ⟨.inl rfl, Nat.zero_le _⟩
  · exact ⟨.inr (Nat.succ_le_succ h1), h2⟩
theorem RowK.fr {lo : Nat} {h h' : H} {v : AV} {cs : List AV} (o : RowK lo h v cs) {S : Nat → Prop} (x : Fr S h h') (hs : ∀ s, S s → s ≤ lo ∨ h.n < s) : RowK lo h' v cs := by
  refine o.imp id ?_
  rintro ⟨b, g, c, h1, h2, h3, h4⟩
  have := x.1
  exact ⟨b, g, c, h1, by omega, by rw [x.2 b h2 (fun e => by have := hs _ e; omega)]; exact h3, h4⟩
theorem Ow.fr2 {lo : Nat} {h h' : H} {v : AV} {l : List UInt8} (ho : Ow lo h v l) {S : Nat → Prop} (x : Fr S h h') (hs : ∀ s, S s → s ≤ lo ∨ h.n < s) : Ow lo h' v l := by
  have := x.1
  rcases ho with ⟨rfl, rfl⟩ | ⟨b, g, h1, h2, h3, h4⟩
  · exact .inl ⟨rfl, rfl⟩
  · exact .inr ⟨b, g, h1, by omega, by rw [x.2 b h2 (fun e => by have := hs _ e; omega)]; exact h3, h4⟩
theorem OwnK.fr {lo : Nat} {h h' : H} {v : AV} {ys : List (AV × List UInt8)} (o : OwnK lo h v ys) {S : Nat → Prop} (x : Fr S h h') (hs : ∀ s, S s → s ≤ lo ∨ h.n < s) : OwnK lo h' v ys := ⟨o.row.fr x hs, fun p hp => (o.el p hp).fr2 x hs⟩
theorem OwnCh.fr {lo : Nat} {h h' : H} {v : AV} {ys : List (AV × List UInt8)} (o : OwnCh lo h v ys) {S : Nat → Prop} (x : Fr S h h') (hs : ∀ s, S s → s ≤ lo ∨ h.n < s) : OwnCh lo h' v ys := by
  refine ⟨?_, fun p hp => (o.el p hp).fr2 x hs⟩
  have hx := x.1
  exact o.row.ext hx (fun b g c h1 h2 _ => x.2 b h2 (fun e => by have := hs _ e; omega))

theorem Rd.bs {h : H} {b : Nat} {v : AV} {l : List UInt8} (r : Rd h b v l) : Bs h v l := r.2.2.1
theorem Rd.ne {h : H} {b : Nat} {v : AV} {l : List UInt8} (r : Rd h b v l) : blk v ≠ b + 1 := by
  have := r.2.2.2
  cases v <;> try (simp [blk]; done)
  · rename_i a n c
    have := (this a n c rfl).1
    simp only [blk]; omega
theorem Rd.bd {h : H} {b : Nat} {v : AV} {l : List UInt8} (r : Rd h b v l) : b < h.n ∧ blk v ≤ h.n ∧ blk v ≠ b + 1 := ⟨r.1, r.bs.bd, r.ne⟩
theorem Rd.fr {h h' : H} {b : Nat} {v : AV} {l : List UInt8} (r : Rd h b v l) {S : Nat → Prop} (x : Fr S h h') (hs : ∀ s, S s → s ≠ b + 1 ∧ (s ≠ blk v ∨ s = 0)) : Rd h' b v l :=
  r.keep x.1 (x.2 b r.1 (fun e => (hs _ e).1 rfl)) (fun a n c e => x.2 a.b (r.bs.lt e) (fun h1 => by have := hs _ h1; rw [e] at this; simp only [blk] at this; omega))
theorem RRd.bs {h : H} {b : Nat} {v : AV} {l : List UInt8} (r : RRd h b v l) : Bs h v l := r.2.2.1
theorem RRd.ne {h : H} {b : Nat} {v : AV} {l : List UInt8} (r : RRd h b v l) : blk v ≠ b + 1 := by
  have := r.2.2.2.2
  cases v <;> try (simp [blk]; done)
  · rename_i a n c
    have := this a n c rfl
    simp only [blk]; omega
theorem RRd.bd {h : H} {b : Nat} {v : AV} {l : List UInt8} (r : RRd h b v l) : b < h.n ∧ blk v ≤ h.n ∧ blk v ≠ b + 1 := ⟨r.1, r.bs.bd, r.ne⟩
theorem RRd.fr {h h' : H} {b : Nat} {v : AV} {l : List UInt8} (r : RRd h b v l) {S : Nat → Prop} (x : Fr S h h') (hs : ∀ s, S s → s ≠ b + 1 ∧ (s ≠ blk v ∨ s = 0)) : RRd h' b v l :=
  r.keep x.1 (x.2 b r.1 (fun e => (hs _ e).1 rfl)) (fun a n c e => x.2 a.b (r.bs.lt e) (fun h1 => by have := hs _ h1; rw [e] at this; simp only [blk] at this; omega))
theorem SB.blk {v v' : AV} (s : SB v v') : Go.Det.blk v' = 0 ∨ Go.Det.blk v' = Go.Det.blk v := by
  cases v' <;> try (exact .inl rfl)
  rename_i a n c
  obtain ⟨a0, n0, c0, rfl, e⟩ := s a n c rfl
  exact .inr (by simp [Go.Det.blk, e])
theorem Ch.none {h : H} : Ch h .nils [] := (OwnK.none (lo := 0)).ch

/-- A row of its own, appended to: only its block changes. -/
theorem RowK.appF {lo : Nat} {h : H} {v w : AV} {cs new : List AV} (o : RowK lo h v cs) (hlo : lo ≤ h.n) (hs : srcCells h 1 w = some (new.length, new)) (h1 : new.all AV.one = true) (hn : cs.length + new.length < 33554432) :
    ∃ v' h', append h 22 1 24 v w = some (.val v' h') ∧ RowK lo h' v' (cs ++ new) ∧ Fr (fun s => s = blk v) h h' := by
  have hmx : 200000000000000 = maxRow := rfl
  unfold append
  simp only [hs]
  by_cases h0 : new = []
  · subst h0
    rcases o with ⟨rfl, rfl⟩ | ⟨b, g, c, q1, q2, q3, rfl, q4⟩
    · exact ⟨.nils, h, rfl, .inl ⟨rfl, rfl⟩, Nat.le_refl _, fun _ _ _ => rfl⟩
    · exact ⟨_, h, rfl, by rw [List.append_nil]; exact .inr ⟨b, g, c, q1, q2, q3, rfl, q4⟩, Nat.le_refl _, fun _ _ _ => rfl⟩
  · have hpos : 0 < new.length := List.length_pos_iff.2 h0
    have hne : (new.length == 0) = false := by simp [h0]
    have fit : fits (cs.length + new.length) 24 = true := by simp only [fits, Bool.and_eq_true, decide_eq_true_eq]; omega
    have hle : cs.length + new.length ≤ 9223372036854775807 := by omega
    rcases o with ⟨rfl, rfl⟩ | ⟨b, g, c, q1, q2, q3, rfl, q4⟩
    · simp only [List.length_nil, Nat.zero_add] at fit hle
      refine ⟨.sl ⟨h.n, 0, 0⟩ new.length (.op 1), h.new (.cells 0 22 new 0 false), ?_, .inr ⟨h.n, 0, .op 1, hlo, by simp, h.get_new _, rfl, .inl rfl⟩, by simp, fun b hb _ => h.get_new_ne b _ (by omega)⟩
      simp [hne, fit, hle, h1, h0]
    · rcases q4 with rfl | rfl
      · refine ⟨.sl ⟨b, g + 1, 0⟩ (cs.length + new.length) (.op 1), h.set b (.cells (g + 1) 22 (cs ++ new) 0 false), ?_, .inr ⟨b, g + 1, .op 1, q1, q2, h.get_set b _, by rw [List.length_append], .inl rfl⟩, Nat.le_refl _, fun b' hb' hk => ?_⟩
        · simp [hne, fit, hle, h1, h0, q3]
        · have : b' ≠ b := by
            rintro rfl
            exact hk rfl
          exact h.get_set_ne b b' _ this
      · have hld : h.ldn ⟨b, g, 0⟩ (cs.length * 1) = some cs := by
          unfold H.ldn H.row
          simp only [q3, BEq.rfl, Bool.not_false, Bool.true_or, Bool.and_self, if_true, Nat.mul_one]
          exact cut_all _
        refine ⟨.sl ⟨h.n, 0, 0⟩ (cs.length + new.length) (.op 1), h.new (.cells 0 22 (cs ++ new) 0 false), ?_, .inr ⟨h.n, 0, .op 1, hlo, by simp, h.get_new _, by rw [List.length_append], .inl rfl⟩, by simp, fun b hb _ => h.get_new_ne b _ (by omega)⟩
        rw [Nat.mul_one] at hld
        simp [hne, fit, hle, h1, h0, hld, hpos]
theorem RowK.bd {lo : Nat} {h : H} {v : AV} {cs : List AV} (o : RowK lo h v cs) : (blk v = 0 ∨ lo < blk v) ∧ blk v ≤ h.n := by
  rcases o with ⟨rfl, _⟩ | ⟨b, g, _, h1, h2, _, rfl, _⟩
  · exact ⟨.inl rfl, Nat.zero_le _⟩
  · exact ⟨.inr (Nat.succ_le_succ h1), h2⟩

/-- A chain whose row is its own, its rows of bytes as they read. -/
structure OwB (lo : Nat) (h : H) (v : AV) (ys : List (AV × List UInt8)) : Prop where
  row : RowK lo h v (ys.map (·.1))
  el : ∀ p ∈ ys, Bs h p.1 p.2 ∧ Cok p.1
theorem OwB.ch {lo : Nat} {h : H} {v : AV} {ys : List (AV × List UInt8)} (o : OwB lo h v ys) : Ch h v ys := o.row.ch o.el
theorem OwB.parts {lo : Nat} {h : H} {v : AV} {xs : List (AV × List UInt8)} (c : OwB lo h v xs) : v.cells = [v] ∧ v.one = true ∧ isStrV v = false := c.ch.parts
theorem OwB.bd {lo : Nat} {h : H} {v : AV} {xs : List (AV × List UInt8)} (c : OwB lo h v xs) : (blk v = 0 ∨ lo < blk v) ∧ blk v ≤ h.n := c.row.bd
theorem OwB.fr {lo : Nat} {h h' : H} {v : AV} {ys : List (AV × List UInt8)} (o : OwB lo h v ys) {S : Nat → Prop} (x : Fr S h h') (hs : ∀ s, S s → s = 0 ∨ h.n < s) : OwB lo h' v ys :=
  ⟨o.row.fr x (fun s h1 => (hs s h1).imp (fun e => by omega) id), fun p hp => ⟨(o.el p hp).1.ext (x.ext hs), (o.el p hp).2⟩⟩
theorem OwB.none {lo : Nat} {h : H} : OwB lo h .nils [] := ⟨.inl ⟨rfl, rfl⟩, fun p hp => by simp at hp⟩
theorem OwnK.b {lo : Nat} {h : H} {v : AV} {ys : List (AV × List UInt8)} (o : OwnK lo h v ys) : OwB lo h v ys := ⟨o.row, fun p hp => ⟨(o.el p hp).bs, (o.el p hp).cok⟩⟩
theorem Ch.bq {h : H} {v : AV} {xs : List (AV × List UInt8)} (c : Ch h v xs) : blk v ≤ h.n := c.bd
theorem OwnCh.bq {lo : Nat} {h : H} {v : AV} {xs : List (AV × List UInt8)} (c : OwnCh lo h v xs) : Dj (blk v = 0 ∨ lo < blk v) ∧ blk v ≤ h.n := c.bd
theorem OwnK.bq {lo : Nat} {h : H} {v : AV} {xs : List (AV × List UInt8)} (c : OwnK lo h v xs) : Dj (blk v = 0 ∨ lo < blk v) ∧ blk v ≤ h.n := c.bd
theorem OwB.bq {lo : Nat} {h : H} {v : AV} {xs : List (AV × List UInt8)} (c : OwB lo h v xs) : Dj (blk v = 0 ∨ lo < blk v) ∧ blk v ≤ h.n := c.bd
theorem RowK.bq {lo : Nat} {h : H} {v : AV} {xs : List AV} (c : RowK lo h v xs) : Dj (blk v = 0 ∨ lo < blk v) ∧ blk v ≤ h.n := c.bd
theorem Rd.bq {h : H} {b : Nat} {v : AV} {l : List UInt8} (r : Rd h b v l) : Dj (blk v ≠ b + 1) ∧ b < h.n ∧ blk v ≤ h.n := ⟨r.ne, r.1, r.bs.bd⟩
theorem RRd.bq {h : H} {b : Nat} {v : AV} {l : List UInt8} (r : RRd h b v l) : Dj (blk v ≠ b + 1) ∧ b < h.n ∧ blk v ≤ h.n := ⟨r.ne, r.1, r.bs.bd⟩
theorem SB.bq {v v' : AV} (s : SB v v') : Dj (Go.Det.blk v' = 0 ∨ Go.Det.blk v' = Go.Det.blk v) := s.blk
end Go.Det

/- Items read: the walks. -/
set_option linter.unusedVariables false
set_option linter.unusedSimpArgs false
set_option linter.unusedSectionVars false
namespace Go.Det
open Go.Proofs
attribute [local irreducible] Wp Wo Wd iop ev slots quiets wanted put

theorem leafE_zero {xs : List (AV × List UInt8)} (h : leafE xs = 0) : mayE xs = true := by
  unfold leafE at h
  by_cases hm : mayE xs = true
  · exact hm
  · rw [if_neg hm] at h; cases h
end Go.Det

/- Rows are spoiled: within a range of blocks. -/
set_option linter.unusedVariables false
set_option linter.unusedSimpArgs false
set_option linter.unusedSectionVars false
namespace Go.Det
open Go.Proofs
attribute [local irreducible] Wp Wo Wd iop ev slots quiets wanted put

/-- A chain of its own, its blocks between two numbers. -/
structure OwI (lo hi : Nat) (h : H) (v : AV) (ys : List (AV × List UInt8)) : Prop where
  k : OwnK lo h v ys
  hi : Go.Det.blk v ≤ hi ∧ ∀ p ∈ ys, Go.Det.blk p.1 ≤ hi
theorem OwI.of {lo : Nat} {h : H} {v : AV} {ys : List (AV × List UInt8)} (o : OwnK lo h v ys) : OwI lo h.n h v ys := ⟨o, o.bd.2, fun p hp => (o.el p hp).bd.2⟩
theorem OwI.ch {lo hi : Nat} {h : H} {v : AV} {ys : List (AV × List UInt8)} (o : OwI lo hi h v ys) : Ch h v ys := o.k.ch
theorem OwI.parts {lo hi : Nat} {h : H} {v : AV} {xs : List (AV × List UInt8)} (c : OwI lo hi h v xs) : v.cells = [v] ∧ v.one = true ∧ isStrV v = false := c.ch.parts
theorem OwI.bd {lo hi : Nat} {h : H} {v : AV} {xs : List (AV × List UInt8)} (c : OwI lo hi h v xs) : (Go.Det.blk v = 0 ∨ lo < Go.Det.blk v) ∧ Go.Det.blk v ≤ hi := ⟨c.k.bd.1, c.hi.1⟩
theorem OwI.bq {lo hi : Nat} {h : H} {v : AV} {xs : List (AV × List UInt8)} (c : OwI lo hi h v xs) : Dj (Go.Det.blk v = 0 ∨ lo < Go.Det.blk v) ∧ Go.Det.blk v ≤ hi := c.bd
theorem OwI.fr {lo hi : Nat} {h h' : H} {v : AV} {ys : List (AV × List UInt8)} (o : OwI lo hi h v ys) {S : Nat → Prop} (x : Fr S h h') (hs : ∀ s, S s → s ≤ lo ∨ hi < s ∨ h.n < s) : OwI lo hi h' v ys := by
  refine ⟨⟨?_, fun p hp => ?_⟩, o.hi⟩
  · have hv := o.hi.1
    refine o.k.row.imp id ?_
    rintro ⟨b, g, c, h1, h2, h3, rfl, h4⟩
    have := x.1
    exact ⟨b, g, c, h1, by omega, by rw [x.2 b h2 (fun e => by have := hs _ e; simp only [blk_sl] at hv; omega)]; exact h3, rfl, h4⟩
  · have h1 := o.k.el p hp
    have h2 := h1.bd
    have h3 := o.hi.2 p hp
    exact h1.fr x (by
      by_cases h0 : Go.Det.blk p.1 = 0
      · exact .inl h0
      · exact .inr (fun e => by have := hs _ e; omega))

/-! The contracts, told so -/
theorem takerecI {h : H} {y : AV} {l : List UInt8} (hy : Bs h y l) (hl : l.length ≤ maxRow) : ∃ r h', Runs TF 54 [y] h r h' ∧ ∃ t z ps E, r = .tup [entV t z, .int .i64 E] ∧ Ext h h' ∧ OwI h.n h'.n h' z ps ∧ recOf l = (t, says ps, E) := by
  obtain ⟨r, h', c, t, z, ps, E, e, x, o, q⟩ := takerec_run hy hl
  exact ⟨r, h', c, t, z, ps, E, e, x, OwI.of o.k, q⟩
end Go.Det

/- Chains as arguments. -/
set_option linter.unusedVariables false
set_option linter.unusedSimpArgs false
namespace Go.Det
open Go.Proofs

end Go.Det

/- The law EntryTakes, walked. -/
set_option linter.unusedVariables false
set_option linter.unusedSimpArgs false
set_option linter.unusedSectionVars false
namespace Go.Det
open Go.Proofs
attribute [local irreducible] Wp Wo Wd iop ev slots quiets wanted put

attribute [local irreducible] recOf itemOf sameE
end Go.Det

/- The law EntryBack, walked. -/
set_option linter.unusedVariables false
set_option linter.unusedSimpArgs false
set_option linter.unusedSectionVars false
namespace Go.Det
open Go.Proofs
attribute [local irreducible] Wp Wo Wd iop ev slots quiets wanted put

theorem leafE_ok {xs : List (AV × List UInt8)} (h : mayE xs = true) : leafE xs = 0 := if_pos h
def sndS : IC → IC
  | .seq _ b => b
  | c => c
attribute [local irreducible] recOf itemOf sameE leafE leafX extraX recX mayE
theorem made_rec (xs : List (AV × List UInt8)) (t : Nat) : (recX t xs).length ≤ 3000 := (made_len xs t).2.2
end Go.Det

/- Bundles: the plain law. -/
set_option linter.unusedVariables false
set_option linter.unusedSimpArgs false
namespace Go.Det
open Go.Proofs

abbrev Rec := Nat × List (List UInt8)
def okR (r : Rec) : Prop := r.1 < 2 ^ 64 ∧ mayS r.2 = true
/-- What a bundle's entries are as bytes. -/
def bytesR (rs : List Rec) : List UInt8 := (rs.map fun r => certB (recS r.1 r.2)).flatten
def mayR (rs : List Rec) : Bool := decide (1 ≤ rs.length ∧ rs.length ≤ 16) && rs.all fun r => mayS r.2
def putE (rs : List Rec) : Int := if mayR rs = true then 0 else 1
def putX (rs : List Rec) : List UInt8 := if mayR rs = true then bytesR rs else []

theorem recS_len {t : Nat} {cs : List (List UInt8)} (h : mayS cs = true) : (recS t cs).length ≤ 2500 ∧ 8 ≤ (recS t cs).length := by
  obtain ⟨h1, h2, h3⟩ := mayS_small h
  have := innerS_le cs (fun c hc => (h3 c hc).2)
  simp only [recS, listS, List.length_append, digits_len]
  omega

/-- Entries read, n there already. -/
def takeF : Nat → Nat → List UInt8 → Option (List Rec)
  | 0, _, l => if l = [] then some [] else none
  | k + 1, n, l => if l = [] then some [] else if vE l 3 = 0 ∧ n ≠ 16 then (match recOf (vX l 3) with
    | (t, cs, E) => if E = 0 then (takeF k (n + 1) (vL l 3)).map ((t, cs) :: ·) else none) else none
def takeA (l : List UInt8) : Option (List Rec) := takeF l.length 0 l
def takeOf (l : List UInt8) : List Rec × Int := match takeA l with
  | some (r :: rs) => (r :: rs, 0)
  | _ => ([], 5)

theorem takeF_nil (k n : Nat) : takeF k n [] = some [] := by cases k <;> rfl
theorem takeF_bad {k n : Nat} {l : List UInt8} (hl : l ≠ []) (h : ¬ (vE l 3 = 0 ∧ n ≠ 16)) : takeF (k + 1) n l = none := by
  simp only [takeF]; rw [if_neg hl, if_neg h]
theorem takeF_rec {k n : Nat} {l : List UInt8} {t : Nat} {cs : List (List UInt8)} {E : Int} (hl : l ≠ []) (h : vE l 3 = 0) (h2 : n ≠ 16) (hr : recOf (vX l 3) = (t, cs, E)) : takeF (k + 1) n l = if E = 0 then (takeF k (n + 1) (vL l 3)).map ((t, cs) :: ·) else none := by
  simp only [takeF]; rw [if_neg hl, if_pos ⟨h, h2⟩, hr]

theorem takeF_enc : ∀ (rs : List Rec) (k n : Nat), (bytesR rs).length ≤ k → n + rs.length ≤ 16 → (∀ r ∈ rs, okR r) → takeF k n (bytesR rs) = some rs
  | [], k, n, _, _, _ => takeF_nil k n
  | (t, cs) :: rs, k, n, hk, hn, hr => by
    have h0 := hr (t, cs) (by simp)
    have hlen : (recS t cs).length ≤ 2500 ∧ 8 ≤ (recS t cs).length := recS_len h0.2
    have hd := dec3 (c := recS t cs) (by omega) (bytesR rs)
    have e : bytesR ((t, cs) :: rs) = certB (recS t cs) ++ bytesR rs := by simp [bytesR]
    have hcl : (certB (recS t cs)).length = 3 + (recS t cs).length := by simp [certB, digits_len]
    rw [e] at hk ⊢
    rw [List.length_append] at hk
    cases k with
    | zero => omega
    | succ k =>
      have hne : certB (recS t cs) ++ bytesR rs ≠ [] := by
        intro h
        have := congrArg List.length h
        simp [hcl] at this
      simp only [List.length_cons] at hn
      have hrec : recOf (vX (certB (recS t cs) ++ bytesR rs) 3) = (t, cs, 0) := by rw [hd.2.1]; exact rec_enc h0.1 h0.2
      rw [takeF_rec hne hd.1 (by omega) hrec, if_pos rfl, hd.2.2, takeF_enc rs k (n + 1) (by omega) (by omega) (fun r hr' => hr r (by simp [hr']))]
      rfl

theorem mayR_iff {rs : List Rec} : mayR rs = true ↔ 1 ≤ rs.length ∧ rs.length ≤ 16 ∧ ∀ r ∈ rs, mayS r.2 = true := by
  simp [mayR, List.all_eq_true, and_assoc]
theorem take_enc {rs : List Rec} (hm : mayR rs = true) (ht : ∀ r ∈ rs, r.1 < 2 ^ 64) : takeOf (bytesR rs) = (rs, 0) := by
  obtain ⟨h1, h2, h3⟩ := mayR_iff.1 hm
  have e : takeA (bytesR rs) = some rs := takeF_enc rs _ 0 (Nat.le_refl _) (by omega) (fun r hr => ⟨ht r hr, h3 r hr⟩)
  cases rs with
  | nil => simp at h1
  | cons r rs => rw [takeOf, e]
end Go.Det

/- Functions of the program in the form that the deterministic machine runs. -/
set_option maxRecDepth 100000
namespace Go.Det
open Go.Proofs
def l64_1 : IC := IC.seq (IC.region [{ dst := some 20, op := IOp.bin (BinOp.lss) (IX.t 19) (IX.t 18), guard := none }]) (IC.seq (IC.cond (IX.t 20) (IC.skip) (IC.exit 0)) (IC.seq (IC.block 1 (IC.seq (IC.region [{ dst := some 21, op := IOp.ia 2 (IX.t 17) (IX.t 19), guard := none }, { dst := some 22, op := IOp.ld (some 2) (IX.t 21), guard := none }, { dst := some 6, op := IOp.new 70 (IX.c (AV.agg [AV.int (IntKind.u64) 0, AV.nils])), guard := none }, { dst := none, op := IOp.st 2 (IX.t 6) (IX.t 22), guard := none }]) (IC.seq (IC.region [{ dst := some 24, op := IOp.ld (some 2) (IX.t 6), guard := none }, { dst := some 25, op := IOp.call 44 [IX.t 24], guard := none }, { dst := some 23, op := IOp.mv (IX.t 25), guard := none }, { dst := some 26, op := IOp.ext (IX.t 23) 0, guard := none }, { dst := some 27, op := IOp.ext (IX.t 23) 1, guard := none }, { dst := some 7, op := IOp.mv (IX.t 26), guard := none }, { dst := some 8, op := IOp.mv (IX.t 27), guard := none }]) (IC.seq (IC.seq (IC.region [{ dst := some 28, op := IOp.mv (IX.t 8), guard := none }, { dst := some 29, op := IOp.bin (BinOp.neq) (IX.t 28) (IX.c (AV.int (IntKind.i64) 0)), guard := none }]) (IC.cond (IX.t 29) (IC.seq (IC.region [{ dst := some 2, op := IOp.mv (IX.c (AV.nils)), guard := none }, { dst := some 3, op := IOp.mv (IX.c (AV.int (IntKind.i64) 1)), guard := none }]) (IC.ret)) (IC.skip))) (IC.seq (IC.region [{ dst := some 31, op := IOp.mv (IX.t 4), guard := none }, { dst := some 32, op := IOp.mv (IX.t 7), guard := none }, { dst := some 33, op := IOp.call 21 [IX.t 31, IX.t 32, IX.c (AV.int (IntKind.i64) 3)], guard := none }, { dst := some 30, op := IOp.mv (IX.t 33), guard := none }, { dst := some 34, op := IOp.ext (IX.t 30) 0, guard := none }, { dst := some 35, op := IOp.ext (IX.t 30) 1, guard := none }, { dst := some 4, op := IOp.mv (IX.t 34), guard := none }, { dst := some 8, op := IOp.mv (IX.t 35), guard := none }]) (IC.seq (IC.region [{ dst := some 36, op := IOp.mv (IX.t 8), guard := none }, { dst := some 37, op := IOp.bin (BinOp.neq) (IX.t 36) (IX.c (AV.int (IntKind.i64) 0)), guard := none }]) (IC.cond (IX.t 37) (IC.seq (IC.region [{ dst := some 2, op := IOp.mv (IX.c (AV.nils)), guard := none }, { dst := some 3, op := IOp.mv (IX.c (AV.int (IntKind.i64) 1)), guard := none }]) (IC.ret)) (IC.skip)))))))) (IC.region [{ dst := some 38, op := IOp.bin (BinOp.add) (IX.t 19) (IX.c (AV.int (IntKind.i64) 1)), guard := none }, { dst := some 19, op := IOp.mv (IX.t 38), guard := none }])))
/-- escritoire/bundle.Put params 1 -/
def ir64 : IFunc := { ntmps := 40, results := [(2, none), (3, none)], body := IC.seq (IC.region [{ dst := some 2, op := IOp.mv (IX.c (AV.nils)), guard := none }, { dst := some 3, op := IOp.mv (IX.c (AV.int (IntKind.i64) 0)), guard := none }]) (IC.seq (IC.seq (IC.region [{ dst := some 9, op := IOp.mv (IX.t 0), guard := none }, { dst := some 10, op := IOp.len false (IX.t 9), guard := none }, { dst := some 11, op := IOp.bin (BinOp.lss) (IX.t 10) (IX.c (AV.int (IntKind.i64) 1)), guard := none }, { dst := some 12, op := IOp.mv (IX.t 11), guard := none }, { dst := some 13, op := IOp.mv (IX.t 0), guard := some (12, false) }, { dst := some 14, op := IOp.len false (IX.t 13), guard := some (12, false) }, { dst := some 15, op := IOp.bin (BinOp.gtr) (IX.t 14) (IX.c (AV.int (IntKind.i64) 16)), guard := some (12, false) }, { dst := some 16, op := IOp.pick (IX.t 12) (IX.c (AV.bool true)) (IX.t 15), guard := none }]) (IC.cond (IX.t 16) (IC.seq (IC.region [{ dst := some 2, op := IOp.mv (IX.c (AV.nils)), guard := none }, { dst := some 3, op := IOp.mv (IX.c (AV.int (IntKind.i64) 1)), guard := none }]) (IC.ret)) (IC.skip))) (IC.seq (IC.region [{ dst := some 4, op := IOp.mv (IX.c (AV.nils)), guard := none }]) (IC.seq (IC.seq (IC.region [{ dst := some 17, op := IOp.mv (IX.t 0), guard := none }, { dst := some 18, op := IOp.len false (IX.t 17), guard := none }, { dst := some 19, op := IOp.mv (IX.c (AV.int (IntKind.i64) 0)), guard := none }]) (IC.block 0 (IC.loop l64_1))) (IC.seq (IC.region [{ dst := some 39, op := IOp.mv (IX.t 4), guard := none }, { dst := some 2, op := IOp.mv (IX.t 39), guard := none }, { dst := some 3, op := IOp.mv (IX.c (AV.int (IntKind.i64) 0)), guard := none }]) (IC.ret))))), known := false } 
theorem f64 : TF 64 = some ir64 := by kernel_rfl
def l66_1 : IC := IC.seq (IC.seq (IC.region [{ dst := some 14, op := IOp.mv (IX.t 4), guard := none }, { dst := some 15, op := IOp.call 33 [IX.t 14], guard := none }, { dst := some 16, op := IOp.bin (BinOp.gtr) (IX.t 15) (IX.c (AV.int (IntKind.i64) 0)), guard := none }]) (IC.cond (IX.t 16) (IC.skip) (IC.exit 0))) (IC.block 1 (IC.seq (IC.region [{ dst := some 18, op := IOp.mv (IX.t 5), guard := none }, { dst := some 19, op := IOp.callv (IX.t 18) [IX.c (AV.int (IntKind.i64) 3)], guard := none }, { dst := some 17, op := IOp.mv (IX.t 19), guard := none }, { dst := some 20, op := IOp.ext (IX.t 17) 0, guard := none }, { dst := some 21, op := IOp.ext (IX.t 17) 1, guard := none }, { dst := some 7, op := IOp.mv (IX.t 20), guard := none }, { dst := some 8, op := IOp.mv (IX.t 21), guard := none }]) (IC.seq (IC.seq (IC.region [{ dst := some 22, op := IOp.mv (IX.t 8), guard := none }, { dst := some 23, op := IOp.bin (BinOp.neq) (IX.t 22) (IX.c (AV.int (IntKind.i64) 0)), guard := none }, { dst := some 24, op := IOp.mv (IX.t 23), guard := none }, { dst := some 25, op := IOp.mv (IX.t 6), guard := some (24, false) }, { dst := some 26, op := IOp.len false (IX.t 25), guard := some (24, false) }, { dst := some 27, op := IOp.bin (BinOp.eql) (IX.t 26) (IX.c (AV.int (IntKind.i64) 16)), guard := some (24, false) }, { dst := some 28, op := IOp.pick (IX.t 24) (IX.c (AV.bool true)) (IX.t 27), guard := none }]) (IC.cond (IX.t 28) (IC.seq (IC.region [{ dst := some 2, op := IOp.mv (IX.c (AV.nils)), guard := none }, { dst := some 3, op := IOp.mv (IX.c (AV.int (IntKind.i64) 5)), guard := none }]) (IC.ret)) (IC.skip))) (IC.seq (IC.region [{ dst := some 30, op := IOp.mv (IX.t 7), guard := none }, { dst := some 31, op := IOp.call 54 [IX.t 30], guard := none }, { dst := some 29, op := IOp.mv (IX.t 31), guard := none }, { dst := some 32, op := IOp.ext (IX.t 29) 0, guard := none }, { dst := some 33, op := IOp.ext (IX.t 29) 1, guard := none }, { dst := some 9, op := IOp.new 70 (IX.c (AV.agg [AV.int (IntKind.u64) 0, AV.nils])), guard := none }, { dst := none, op := IOp.st 2 (IX.t 9) (IX.t 32), guard := none }, { dst := some 8, op := IOp.mv (IX.t 33), guard := none }]) (IC.seq (IC.seq (IC.region [{ dst := some 34, op := IOp.mv (IX.t 8), guard := none }, { dst := some 35, op := IOp.bin (BinOp.neq) (IX.t 34) (IX.c (AV.int (IntKind.i64) 0)), guard := none }]) (IC.cond (IX.t 35) (IC.seq (IC.region [{ dst := some 2, op := IOp.mv (IX.c (AV.nils)), guard := none }, { dst := some 3, op := IOp.mv (IX.c (AV.int (IntKind.i64) 5)), guard := none }]) (IC.ret)) (IC.skip))) (IC.region [{ dst := some 36, op := IOp.mv (IX.t 6), guard := none }, { dst := some 37, op := IOp.ld (some 2) (IX.t 9), guard := none }, { dst := some 38, op := IOp.bsl 70 [AV.int (IntKind.u64) 0, AV.nils] 1 [(0, 2, IX.t 37)], guard := none }, { dst := some 39, op := IOp.app 70 2 32 false (IX.t 36) (IX.t 38), guard := none }, { dst := some 6, op := IOp.mv (IX.t 39), guard := none }]))))))
/-- escritoire/bundle.Take params 1 -/
def ir66 : IFunc := { ntmps := 44, results := [(2, none), (3, none)], body := IC.seq (IC.region [{ dst := some 2, op := IOp.mv (IX.c (AV.nils)), guard := none }, { dst := some 3, op := IOp.mv (IX.c (AV.int (IntKind.i64) 0)), guard := none }]) (IC.seq (IC.region [{ dst := some 10, op := IOp.mv (IX.t 0), guard := none }, { dst := some 11, op := IOp.call 25 [IX.t 10], guard := none }, { dst := some 4, op := IOp.mv (IX.t 11), guard := none }]) (IC.seq (IC.region [{ dst := some 12, op := IOp.mv (IX.t 4), guard := none }, { dst := some 13, op := IOp.mkF (Fn.func 29) [IX.t 12] [], guard := none }, { dst := some 5, op := IOp.mv (IX.t 13), guard := none }]) (IC.seq (IC.region [{ dst := some 6, op := IOp.mv (IX.c (AV.nils)), guard := none }]) (IC.seq (IC.block 0 (IC.loop l66_1)) (IC.seq (IC.seq (IC.region [{ dst := some 40, op := IOp.mv (IX.t 6), guard := none }, { dst := some 41, op := IOp.len false (IX.t 40), guard := none }, { dst := some 42, op := IOp.bin (BinOp.eql) (IX.t 41) (IX.c (AV.int (IntKind.i64) 0)), guard := none }]) (IC.cond (IX.t 42) (IC.seq (IC.region [{ dst := some 2, op := IOp.mv (IX.c (AV.nils)), guard := none }, { dst := some 3, op := IOp.mv (IX.c (AV.int (IntKind.i64) 5)), guard := none }]) (IC.ret)) (IC.skip))) (IC.seq (IC.region [{ dst := some 43, op := IOp.mv (IX.t 6), guard := none }, { dst := some 2, op := IOp.mv (IX.t 43), guard := none }, { dst := some 3, op := IOp.mv (IX.c (AV.int (IntKind.i64) 0)), guard := none }]) (IC.ret))))))), known := false } 
theorem f66 : TF 66 = some ir66 := by kernel_rfl
end Go.Det

/- Rows of any cells, of their own; rows of entries. -/
set_option linter.unusedVariables false
set_option linter.unusedSimpArgs false
set_option linter.unusedSectionVars false
namespace Go.Det
open Go.Proofs

/-- A row of n elements of sz cells each, its block its own. -/
def RowG (e sz lo : Nat) (h : H) (v : AV) (cs : List AV) (n : Nat) : Prop := (v = .nils ∧ cs = [] ∧ n = 0) ∨ ∃ b g c, lo ≤ b ∧ b < h.n ∧ h.get b = some (.cells g e cs 0 false) ∧ v = .sl ⟨b, g, 0⟩ n c ∧ cs.length = n * sz ∧ (c = .op sz ∨ c = .ex n)

theorem RowG.app {e sz lo n m bytes : Nat} {h : H} {v w : AV} {cs new : List AV} (o : RowG e sz lo h v cs n) (hlo : lo ≤ h.n) (hs : srcCells h sz w = some (m, new)) (hm : new.length = m * sz) (hsz : 0 < sz) (h1 : new.all AV.one = true) (fit : fits (n + m) bytes = true) (hle : n + m ≤ 9223372036854775807) :
    ∃ v' h', append h e sz bytes v w = some (.val v' h') ∧ RowG e sz lo h' v' (cs ++ new) (n + m) ∧ Fr (fun s => s = blk v) h h' := by
  unfold append
  simp only [hs]
  by_cases h0 : m = 0
  · subst h0
    have hn : new = [] := List.eq_nil_of_length_eq_zero (by simpa using hm)
    subst hn
    rcases o with ⟨rfl, rfl, rfl⟩ | ⟨b, g, c, q1, q2, q3, rfl, q4⟩
    · exact ⟨.nils, h, rfl, .inl ⟨rfl, rfl, rfl⟩, Nat.le_refl _, fun _ _ _ => rfl⟩
    · exact ⟨_, h, rfl, by rw [List.append_nil]; exact .inr ⟨b, g, c, q1, q2, q3, rfl, q4⟩, Nat.le_refl _, fun _ _ _ => rfl⟩
  · have hne : (m == 0) = false := by simp [h0]
    rcases o with ⟨rfl, rfl, rfl⟩ | ⟨b, g, c, q1, q2, q3, rfl, q5, q4⟩
    · simp only [Nat.zero_add] at fit hle ⊢
      refine ⟨.sl ⟨h.n, 0, 0⟩ m (.op sz), h.new (.cells 0 e new 0 false), ?_, .inr ⟨h.n, 0, .op sz, hlo, by simp, h.get_new _, rfl, hm, .inl rfl⟩, by simp, fun b hb _ => h.get_new_ne b _ (by omega)⟩
      simp [hne, fit, hle, h1, h0]
    · rcases q4 with rfl | rfl
      · refine ⟨.sl ⟨b, g + 1, 0⟩ (n + m) (.op sz), h.set b (.cells (g + 1) e (cs ++ new) 0 false), ?_, .inr ⟨b, g + 1, .op sz, q1, q2, h.get_set b _, rfl, by rw [List.length_append, q5, hm, Nat.add_mul], .inl rfl⟩, Nat.le_refl _, fun b' hb' hk => ?_⟩
        · simp [hne, fit, hle, h1, h0, q3, q5]
        · have : b' ≠ b := by
            rintro rfl
            exact hk rfl
          exact h.get_set_ne b b' _ this
      · have hld : h.ldn ⟨b, g, 0⟩ (n * sz) = some cs := by
          unfold H.ldn H.row
          simp only [q3, BEq.rfl, Bool.not_false, Bool.true_or, Bool.and_self, if_true]
          rw [← q5]
          exact cut_all _
        refine ⟨.sl ⟨h.n, 0, 0⟩ (n + m) (.op sz), h.new (.cells 0 e (cs ++ new) 0 false), ?_, .inr ⟨h.n, 0, .op sz, hlo, by simp, h.get_new _, rfl, by rw [List.length_append, q5, hm, Nat.add_mul], .inl rfl⟩, by simp, fun b hb _ => h.get_new_ne b _ (by omega)⟩
        have : n < n + m := by omega
        simp [hne, fit, hle, h1, h0, hld, this]
theorem RowG.bd {e sz lo n : Nat} {h : H} {v : AV} {cs : List AV} (o : RowG e sz lo h v cs n) : (blk v = 0 ∨ lo < blk v) ∧ blk v ≤ h.n := by
  rcases o with ⟨rfl, _⟩ | ⟨b, g, _, h1, h2, _, rfl, _⟩
  · exact ⟨.inl rfl, Nat.zero_le _⟩
  · exact ⟨.inr (Nat.succ_le_succ h1), h2⟩
theorem RowG.fr {e sz lo n : Nat} {h h' : H} {v : AV} {cs : List AV} (o : RowG e sz lo h v cs n) {S : Nat → Prop} (x : Fr S h h') (hs : blk v = 0 ∨ ¬ S (blk v)) : RowG e sz lo h' v cs n := by
  refine o.imp id ?_
  rintro ⟨b, g, c, h1, h2, h3, rfl, h4⟩
  have := x.1
  exact ⟨b, g, c, h1, by omega, by rw [x.2 b h2 (hs.resolve_left (by simp [blk_sl]))]; exact h3, rfl, h4⟩
theorem RowG.mono {e sz lo lo' n : Nat} {h : H} {v : AV} {cs : List AV} (o : RowG e sz lo h v cs n) (hl : lo' ≤ lo) : RowG e sz lo' h v cs n := by
  refine o.imp id ?_
  rintro ⟨b, g, c, h1, h2⟩
  exact ⟨b, g, c, by omega, h2⟩
theorem RowG.src {e sz lo n : Nat} {h : H} {v : AV} {cs : List AV} (o : RowG e sz lo h v cs n) : srcCells h sz v = some (n, cs) := by
  rcases o with ⟨rfl, rfl, rfl⟩ | ⟨b, g, c, h1, h2, h3, rfl, h4, _⟩
  · rfl
  · have hld : h.ldn ⟨b, g, 0⟩ (n * sz) = some cs := by
      unfold H.ldn H.row
      simp only [h3, BEq.rfl, Bool.not_false, Bool.true_or, Bool.and_self, if_true]
      rw [← h4]
      exact cut_all _
    simp only [srcCells, hld, Option.map_some]

/-- An entry in memory: its time, its chain's value, what it reads. -/
structure Ent where
  t : Nat
  z : AV
  ps : List (AV × List UInt8)
def Ent.cells (e : Ent) : List AV := [.int .u64 e.t, e.z]
def Ent.tell (e : Ent) : Rec := (e.t, says e.ps)
def rowE (xs : List Ent) : List AV := (xs.map Ent.cells).flatten
def recsE (xs : List Ent) : List Rec := xs.map Ent.tell
theorem rowE_len (xs : List Ent) : (rowE xs).length = xs.length * 2 := by
  induction xs with
  | nil => rfl
  | cons x xs ih => simp only [rowE, List.map_cons, List.flatten_cons, List.length_append, Ent.cells, List.length_cons, List.length_nil] at ih ⊢; omega
theorem rowE_app (xs ys : List Ent) : rowE (xs ++ ys) = rowE xs ++ rowE ys := by simp [rowE]

/-- A row of entries as it reads. -/
structure Es (h : H) (v : AV) (xs : List Ent) : Prop where
  row : (v = .nils ∧ xs = []) ∨ ∃ a c, v = .sl a xs.length c ∧ a.b < h.n ∧ h.ldn a (xs.length * 2) = some (rowE xs)
  el : ∀ e ∈ xs, Ch h e.z e.ps ∧ e.t < 2 ^ 64
  cap : ∀ a m c, v = .sl a m c → (∃ k, c = .ex k ∧ m ≤ k) ∨ c = .op 2
theorem Es.ext {h h' : H} {v : AV} {xs : List Ent} (c : Es h v xs) (hx : Ext h h') : Es h' v xs :=
  ⟨c.row.imp id (fun ⟨a, q, h1, h2, h3⟩ => ⟨a, q, h1, Nat.lt_of_lt_of_le h2 hx.1, by rw [ldn_same (hx.2 _ h2)]; exact h3⟩), fun e he => ⟨(c.el e he).1.ext hx, (c.el e he).2⟩, c.cap⟩
theorem Es.fr {h h' : H} {v : AV} {xs : List Ent} (c : Es h v xs) {S : Nat → Prop} (x : Fr S h h') (hs : ∀ s, S s → s = 0 ∨ h.n < s) : Es h' v xs := c.ext (x.ext hs)
theorem Es.bq {h : H} {v : AV} {xs : List Ent} (c : Es h v xs) : blk v ≤ h.n := by
  rcases c.row with ⟨rfl, _⟩ | ⟨a, q, rfl, h2, _⟩
  · exact Nat.zero_le _
  · exact h2
theorem Es.parts {h : H} {v : AV} {xs : List Ent} (c : Es h v xs) : v.cells = [v] ∧ v.one = true ∧ isStrV v = false := by rcases c.row with ⟨rfl, _⟩ | ⟨_, _, rfl, _, _⟩ <;> exact ⟨rfl, rfl, rfl⟩
theorem Es.lenS {h : H} {v : AV} {xs : List Ent} (c : Es h v xs) : (v = .nils ∧ xs.length = 0) ∨ ∃ a q, v = .sl a xs.length q := by
  rcases c.row with ⟨rfl, rfl⟩ | ⟨a, q, rfl, _⟩
  · exact .inl ⟨rfl, rfl⟩
  · exact .inr ⟨a, q, rfl⟩
theorem Es.nil0 {h : H} : Es h .nils [] := ⟨.inl ⟨rfl, rfl⟩, fun e he => by simp at he, fun a m c e => by cases e⟩

theorem rowE_at : ∀ {xs : List Ent} {i : Nat} {e : Ent}, xs[i]? = some e → ((rowE xs).drop (i * 2)).take 2 = e.cells
  | x :: xs, 0, e, h => by simp only [List.getElem?_cons_zero, Option.some.injEq] at h; subst h; simp [rowE, Ent.cells]
  | x :: xs, i + 1, e, h => by
    have := rowE_at (xs := xs) (i := i) (e := e) (by simpa using h)
    rw [show (i + 1) * 2 = i * 2 + 2 by omega]
    simp only [rowE, List.map_cons, List.flatten_cons, Ent.cells, List.cons_append, List.nil_append, List.drop_succ_cons] at this ⊢
    exact this

/-- An element of the row. -/
theorem Es.at {h : H} {v : AV} {xs : List Ent} (c : Es h v xs) {i : Nat} {e : Ent} (hp : xs[i]? = some e) : ∃ a q, v = .sl a xs.length q ∧ h.ldg ⟨a.b, a.g, a.o + i * 2⟩ (some 2) = some (.agg [.int .u64 e.t, e.z]) := by
  have hi : i < xs.length := (List.getElem?_eq_some_iff.1 hp).1
  rcases c.row with ⟨_, rfl⟩ | ⟨a, q, rfl, _, h3⟩
  · simp at hp
  · refine ⟨a, q, rfl, ?_⟩
    have h4 := ldn_take (ldn_drop h3 (n := i * 2) (by omega)) (n := 2) (by omega)
    rw [rowE_at hp] at h4
    simp [H.ldg, h4, Ent.cells]

/-- A row of entries of its own, their chains too. -/
structure OwE (lo : Nat) (h : H) (v : AV) (xs : List Ent) : Prop where
  row : RowG 70 2 lo h v (rowE xs) xs.length
  el : ∀ e ∈ xs, OwnK lo h e.z e.ps ∧ e.t < 2 ^ 64
theorem OwE.es {lo : Nat} {h : H} {v : AV} {xs : List Ent} (o : OwE lo h v xs) : Es h v xs := by
  refine ⟨?_, fun e he => ⟨(o.el e he).1.ch, (o.el e he).2⟩, ?_⟩
  · rcases o.row with ⟨h1, _, h3⟩ | ⟨b, g, c, h1, h2, h3, h4, h5, _⟩
    · exact .inl ⟨h1, List.length_eq_zero_iff.1 h3⟩
    · refine .inr ⟨⟨b, g, 0⟩, c, h4, h2, ?_⟩
      unfold H.ldn H.row
      simp only [h3, BEq.rfl, Bool.not_false, Bool.true_or, Bool.and_self, if_true]
      rw [← h5]
      exact cut_all _
  · rintro a m c e
    rcases o.row with ⟨h1, _⟩ | ⟨b, g, q, _, _, _, h4, _, h5⟩
    · rw [h1] at e; cases e
    · rw [h4] at e; simp only [AV.sl.injEq] at e
      obtain ⟨_, rfl, rfl⟩ := e
      rcases h5 with h5 | h5
      · exact .inr h5
      · exact .inl ⟨_, h5, Nat.le_refl _⟩
theorem OwE.parts {lo : Nat} {h : H} {v : AV} {xs : List Ent} (o : OwE lo h v xs) : v.cells = [v] ∧ v.one = true ∧ isStrV v = false := o.es.parts
theorem OwE.bq {lo : Nat} {h : H} {v : AV} {xs : List Ent} (o : OwE lo h v xs) : Dj (blk v = 0 ∨ lo < blk v) ∧ blk v ≤ h.n := o.row.bd
theorem OwE.fr {lo : Nat} {h h' : H} {v : AV} {xs : List Ent} (o : OwE lo h v xs) {S : Nat → Prop} (x : Fr S h h') (hs : ∀ s, S s → s ≤ lo ∨ h.n < s) : OwE lo h' v xs := by
  have hb := o.row.bd
  refine ⟨o.row.fr x ?_, fun e he => ⟨(o.el e he).1.fr x hs, (o.el e he).2⟩⟩
  by_cases h0 : blk v = 0
  · exact .inl h0
  · exact .inr (fun e => by have := hs _ e; omega)
theorem OwE.mono {lo lo' : Nat} {h : H} {v : AV} {xs : List Ent} (o : OwE lo h v xs) (hl : lo' ≤ lo) : OwE lo' h v xs := ⟨o.row.mono hl, fun e he => ⟨(o.el e he).1.mono hl, (o.el e he).2⟩⟩
theorem OwE.nil0 {lo : Nat} {h : H} : OwE lo h .nils [] := ⟨.inl ⟨rfl, rfl, rfl⟩, fun e he => by simp at he⟩

/-- Only a row of entries changes: chains stand. -/
theorem OwnK.keepT {lo b g : Nat} {c : List AV} {h h' : H} {v : AV} {ys : List (AV × List UInt8)} (o : OwnK lo h v ys) (x : Fr (fun s => s = b + 1) h h') (hg : h.get b = some (.cells g 70 c 0 false)) : OwnK lo h' v ys := by
  have hn := x.1
  have key : ∀ k g' e' c', e' ≠ 70 → k < h.n → h.get k = some (.cells g' e' c' 0 false) → h'.get k = h.get k := fun k g' e' c' he hk hgk => x.2 k hk (fun e => by
    have : k = b := by omega
    subst this
    rw [hg] at hgk
    simp only [Option.some.injEq, Blk.cells.injEq] at hgk
    exact he hgk.2.1.symm)
  refine ⟨?_, fun p hp => ?_⟩
  · refine o.row.imp id ?_
    rintro ⟨k, g', c', h1, h2, h3, h4⟩
    exact ⟨k, g', c', h1, by omega, by rw [key k _ _ _ (by decide) h2 h3]; exact h3, h4⟩
  · exact (o.el p hp).keep hn (fun k g' c' h1 h2 h3 => key k _ _ _ (by decide) h2 h3)

/-- One entry more. -/
theorem app70_one {lo lo2 hi2 : Nat} {h : H} {b t : Nat} {v z : AV} {ps : List (AV × List UInt8)} {xs : List Ent} (p : Pt h b (.cells 0 70 [.int .u64 t, z] 0 false)) (o : OwE lo h v xs) (hz : OwI lo2 hi2 h z ps) (ht : t < 2 ^ 64) (hlo : lo ≤ h.n) (hl2 : lo ≤ lo2) (hn : (xs.length + 1) * 32 ≤ 200000000000000) :
    ∃ v' h', append h 70 2 32 v (.sl ⟨b, 0, 0⟩ 1 (.ex 1)) = some (.val v' h') ∧ OwE lo h' v' (xs ++ [⟨t, z, ps⟩]) ∧ Fr (fun s => s = blk v) h h' := by
  have hmx : 200000000000000 = maxRow := rfl
  have hld : h.ldn ⟨b, 0, 0⟩ (1 * 2) = some [.int .u64 t, z] := by
    unfold H.ldn H.row
    simp only [p.2, BEq.rfl, Bool.not_false, Bool.true_or, Bool.and_self, if_true]
    rfl
  have fit : fits (xs.length + 1) 32 = true := by simp only [fits, Bool.and_eq_true, decide_eq_true_eq]; omega
  obtain ⟨v', h', e, r, x⟩ := o.row.app (bytes := 32) (w := .sl ⟨b, 0, 0⟩ 1 (.ex 1)) (m := 1) (new := [.int .u64 t, z]) hlo (by simp only [srcCells, hld, Option.map_some]) rfl (by omega) (ones_cons rfl (ones_cons hz.parts.2.1 ones_nil)) fit (by omega)
  have hall : ∀ {q : AV} {qs : List (AV × List UInt8)} {lo' : Nat}, OwnK lo' h q qs → OwnK lo' h' q qs := by
    intro q qs lo' oq
    rcases o.row with ⟨e1, _⟩ | ⟨b', g, c, h1, h2, h3, e1, _⟩
    · subst e1
      exact oq.fr x (fun s hs => .inl (by rw [hs]; exact Nat.zero_le _))
    · subst e1
      exact oq.keepT (b := b') x h3
  refine ⟨v', h', e, ⟨by rw [rowE_app, List.length_append]; exact r, fun q hq => ?_⟩, x⟩
  rcases List.mem_append.1 hq with hq | hq
  · exact ⟨hall (o.el q hq).1, (o.el q hq).2⟩
  · simp only [List.mem_cons, List.not_mem_nil, or_false] at hq
    subst hq
    exact ⟨(hall hz.k).mono hl2, ht⟩
end Go.Det

/- Bundles: the walks. -/
set_option linter.unusedVariables false
set_option linter.unusedSimpArgs false
set_option linter.unusedSectionVars false
namespace Go.Det
open Go.Proofs
attribute [local irreducible] Wp Wo Wd iop ev slots quiets wanted put

/-- Entries' rows are not too long. -/
def FewE (xs : List Ent) : Prop := (xs.length + 1) * 32 ≤ 200000000000000 ∧ ∀ e ∈ xs, e.ps.length * 24 ≤ 140737488355328 ∧ ∀ p ∈ e.ps, p.2.length ≤ maxRow
theorem recs_len {xs : List Ent} : (recsE xs).length = xs.length := by simp [recsE]

/-- One record more in a bundle: three bytes of length and the record. -/
theorem wvec3 {h : H} {x y : AV} {lx ly : List UInt8} (hx : Bs h x lx) (hy : Bs h y ly) (hl : lx.length + 16777224 ≤ maxRow) (hl2 : ly.length ≤ 3000) :
    ∃ r h', Runs TF 21 [x, y, .int .i64 3] h r h' ∧ ∃ z, r = .tup [z, .int .i64 0] ∧ Ext h h' ∧ Ow h.n h' z (lx ++ certB ly) := by
  have hmx : 200000000000000 = maxRow := rfl
  obtain ⟨r, h', c, z, e, x, o⟩ := wvec_any hx hy 3 hl (by omega)
  have he : vecE ly.length 3 = 0 := vecE_small (s := 3) (by omega) (.inr rfl)
  rw [he] at e o
  rw [if_pos rfl] at o
  exact ⟨r, h', c, z, e, x, by rw [certB, ← List.append_assoc]; exact o⟩
theorem bytesR_snoc (rs : List Rec) (r : Rec) : bytesR (rs ++ [r]) = bytesR rs ++ certB (recS r.1 r.2) := by simp [bytesR]
theorem bytesR_len : ∀ (rs : List Rec), (∀ r ∈ rs, mayS r.2 = true) → (bytesR rs).length ≤ 2503 * rs.length
  | [], _ => Nat.zero_le _
  | (t, cs) :: rs, h => by
    have h1 := bytesR_len rs (fun r hr => h r (by simp [hr]))
    have h2 : (recS t cs).length ≤ 2500 ∧ 8 ≤ (recS t cs).length := recS_len (h (t, cs) (by simp))
    have e : bytesR ((t, cs) :: rs) = certB (recS t cs) ++ bytesR rs := by simp [bytesR]
    rw [e, List.length_append, List.length_cons]
    have : (certB (recS t cs)).length = 3 + (recS t cs).length := by simp [certB, digits_len]
    omega
theorem recX_S {t : Nat} {ps : List (AV × List UInt8)} (h : mayE ps = true) : recX t ps = recS t (says ps) := by rw [recX, if_pos h, list_says]; rfl

theorem take_may {xs : List Ent} {i : Nat} {e : Ent} (hm : ∀ r ∈ recsE (xs.take i), mayS r.2 = true) (hp : xs[i]? = some e) (he : mayE e.ps = true) : ∀ r ∈ recsE (xs.take (i + 1)), mayS r.2 = true := by
  rw [take_step hp]
  intro r hr
  simp only [recsE, List.map_append, List.map_cons, List.map_nil, List.mem_append, List.mem_cons, List.not_mem_nil, or_false] at hr
  rcases hr with hr | rfl
  · exact hm r hr
  · show mayS (says e.ps) = true
    rw [← may_says]; exact he
theorem take_bytes {xs : List Ent} {i : Nat} {e : Ent} (hp : xs[i]? = some e) (he : mayE e.ps = true) : bytesR (recsE (xs.take i)) ++ certB (recX e.t e.ps) = bytesR (recsE (xs.take (i + 1))) := by
  rw [take_step hp, recX_S he]
  simp only [recsE, List.map_append, List.map_cons, List.map_nil]
  rw [bytesR_snoc]
  rfl
theorem take_len {xs : List Ent} {i : Nat} (hx : xs.length ≤ 16) (hm : ∀ r ∈ recsE (xs.take i), mayS r.2 = true) : (bytesR (recsE (xs.take i))).length ≤ 50000 := by
  have h1 := bytesR_len _ hm
  have h2 : (recsE (xs.take i)).length ≤ 16 := by rw [recs_len, List.length_take]; omega
  omega
theorem bad_may {xs : List Ent} {i : Nat} {e : Ent} (hp : xs[i]? = some e) (he : ¬ mayE e.ps = true) : mayR (recsE xs) = false := by
  have : ¬ mayR (recsE xs) = true := by
    intro h
    have h3 := (mayR_iff.1 h).2.2 e.tell (List.mem_map_of_mem (List.mem_of_getElem? hp))
    exact he (by rw [may_says]; exact h3)
  simpa using this

attribute [local irreducible] recX leafE mayE
set_option maxHeartbeats 8000000 in
theorem put64_loop {h0 : H} {v : AV} {xs : List Ent} (hc : Es h0 v xs) (hx : xs.length ≤ 16) (hf : FewE xs) :
    ∀ (k i : Nat), i + k = xs.length → ∀ (h : H) (bV : AV) (ts : List AV), Ext h0 h → Ow h0.n h bV (bytesR (recsE (xs.take i))) → (∀ r ∈ recsE (xs.take i), mayS r.2 = true) → ts.length = 40 → getL ts 4 = some bV → getL ts 17 = some v → getL ts 18 = some (.int .i64 xs.length) → getL ts 19 = some (.int .i64 i) →
      ∀ (Q : Ex → St → Prop), (∀ ts' h' bV, Ext h0 h' → Ow h0.n h' bV (bytesR (recsE xs)) → (∀ r ∈ recsE xs, mayS r.2 = true) → ts'.length = 40 → getL ts' 4 = some bV → Q (.exit 0) (ts', h')) → (∀ ts' h', mayR (recsE xs) = false → Ext h0 h' → getL ts' 2 = some .nils → getL ts' 3 = some (.int .i64 1) → Q .ret (ts', h')) → Wp TF (.loop l64_1) (ts, h) Q := by
  have hmx : 200000000000000 = maxRow := rfl
  obtain ⟨hf1, hf2⟩ := hf
  intro k
  induction k with
  | zero =>
    intro i hi h bV ts hE hO hm t0 tb tv tl ti Q hQ hQ'
    obtain rfl : i = xs.length := by omega
    rw [List.take_length] at hO hm
    refine Wp.loop ?_
    rw [laid_eq t0 [(4, bV), (17, v), (18, .int .i64 xs.length), (19, .int .i64 xs.length)] (by simp [tb, tv, tl, ti])]
    have m1 := hc.bq
    have k2 := hc.parts
    have m3 := hO.bq
    have k4 := hO.parts
    have m5 := hE.1
    refine Wp.seq ?_
    refine Wp.region ?_
    refine Wo.cmp (op := .lss) (x := IX.t 19) (y := IX.t 18) (k := IntKind.i64) (a := ↑xs.length) (b := ↑xs.length) ((↑xs.length : Int) < (↑xs.length : Int)) (by kernel_rfl) (by kernel_rfl) (by kernel_rfl) (by kernel_rfl) (by simp) (by kernel_rfl) (fun q6 => ?_) (fun q6 => ?_)
    · skip
      (exfalso; omega)
    · skip
      refine Wo.nil ?_
      refine Wp.seq ?_
      refine Wp.cond false (by kernel_rfl) ?_
      refine Wp.exit ?_
      exact hQ _ _ bV hE hO hm (by kernel_rfl) (by kernel_rfl)
  | succ k ih =>
    intro i hi h bV ts hE hO hm t0 tb tv tl ti Q hQ hQ'
    have hlt : i < xs.length := by omega
    obtain ⟨⟨et, ez, ep⟩, hp⟩ : ∃ e, xs[i]? = some e := ⟨xs[i], List.getElem?_eq_getElem hlt⟩
    have hmem := List.mem_of_getElem? hp
    obtain ⟨f1, f2⟩ := hf2 _ hmem
    have het : et < 2 ^ 64 := (hc.el _ hmem).2
    have hB : Ch h ez ep := (hc.el _ hmem).1.ext hE
    dsimp only at f1 f2
    have hl := take_len (i := i) hx hm
    have hr := made_rec ep et
    obtain ⟨a, q, rfl, hld⟩ := (hc.ext hE).at hp
    dsimp only at hld
    have n0 := hE.1
    refine Wp.loop ?_
    rw [laid_eq t0 [(4, bV), (17, .sl a xs.length q), (18, .int .i64 xs.length), (19, .int .i64 i)] (by simp [tb, tv, tl, ti])]
    have m1 := hO.bq
    have k2 := hO.parts
    have m3 := hB.bq
    have k4 := hB.parts
    have m5 := hc.bq
    have k6 := hc.parts
    have m7 := hE.1
    refine Wp.seq ?_
    refine Wp.region ?_
    refine Wo.cmp (op := .lss) (x := IX.t 19) (y := IX.t 18) (k := IntKind.i64) (a := ↑i) (b := ↑xs.length) ((↑i : Int) < (↑xs.length : Int)) (by kernel_rfl) (by kernel_rfl) (by kernel_rfl) (by kernel_rfl) (by simp) (by kernel_rfl) (fun q8 => ?_) (fun q8 => ?_)
    · skip
      refine Wo.nil ?_
      refine Wp.seq ?_
      refine Wp.cond true (by kernel_rfl) ?_
      refine Wp.skip ?_
      refine Wp.seq ?_
      refine Wp.block ?_
      refine Wp.seq ?_
      refine Wp.region ?_
      refine Wo.val (.ptr ⟨(a : AA).b, (a : AA).g, (a : AA).o + i * 2⟩) h (by kernel_rfl) (iop_iaN (a := a) (n := xs.length) (c := q) (ie := (↑i : Int)) (i := i) (by kernel_rfl) (by kernel_rfl) rfl (by first | omega | (simp; omega))) ?_
      refine Wo.val (AV.agg [AV.int IntKind.u64 ↑et, ez]) h (by kernel_rfl) (iop_ld (a := { b := a.b, g := a.g, o := a.o + i * 2 }) (by kernel_rfl) hld) ?_
      obtain ⟨H9, e9, P9, X9, n9⟩ := pt_new h 70 [AV.int IntKind.u64 0, AV.nils] (ones_cons rfl (ones_cons rfl ones_nil))
      refine Wo.val (.ptr ⟨H.n h, 0, 0⟩) H9 (by kernel_rfl) (e9 (v := AV.agg [AV.int IntKind.u64 0, AV.nils]) (by kernel_rfl) rfl) ?_
      clear e9
      have m10 := X9.1
      obtain ⟨H11, e11, P11, X11, n11⟩ := P9.st 0 [AV.int IntKind.u64 ↑et, ez] (by simp) (ones_cons rfl (ones_cons k4.2.1 ones_nil))
      refine Wo.val .undef H11 (by kernel_rfl) (iop_stP (a := { b := h.n, g := 0, o := 0 }) (v := AV.agg [AV.int IntKind.u64 ↑et, ez]) (vs := [AV.int IntKind.u64 ↑et, ez]) (by kernel_rfl) (by kernel_rfl) rfl rfl e11) ?_
      have m12 := X11.1
      replace P11 : Pt H11 h.n (Blk.cells 0 70 [AV.int IntKind.u64 ↑et, ez] 0 false) := P11
      refine Wo.nil ?_
      refine Wp.seq ?_
      refine Wp.region ?_
      refine Wo.val (AV.agg [AV.int IntKind.u64 ↑et, ez]) H11 (by kernel_rfl) (iop_ldP P11 (a := { b := h.n, g := 0, o := 0 }) (by kernel_rfl) rfl (by kernel_rfl)) ?_
      have F13 := (hB.fr (X9.transL X11) (by (first | omega | (intro s hs; omega) | (dsimp only; omega) | (intro s hs; dsimp only at hs; omega) | (simp only [blk_nils, blk_sl]; omega) | (intro s hs; simp only [blk_nils, blk_sl] at hs ⊢; omega) | (simp; done))))
      obtain ⟨r14, H15, c16, z17, rfl, X19, q20⟩ := record_run (t := et) F13 (by first | omega | (simp; omega) | (simp; done) | assumption) het
      have m21 := X19.1
      have m22 := q20.bq
      have k23 := q20.parts
      refine Wo.call (by kernel_rfl) (by kernel_rfl) c16 ?_
      clear c16
      refine Wo.pre 5 (by kernel_rfl) ?_
      refine Wo.nil ?_
      refine Wp.seq ?_
      refine Wp.seq ?_
      refine Wp.region ?_
      refine Wo.pre 1 (by kernel_rfl) ?_
      refine Wo.cmpN (op := .neq) (x := IX.t 28) (y := IX.c (AV.int IntKind.i64 0)) (k := IntKind.i64) (a := leafE ep) (b := 0) ((leafE ep : Int) = (0 : Int)) (by kernel_rfl) (by kernel_rfl) (by kernel_rfl) (by kernel_rfl) (by simp) (by kernel_rfl) (fun q24 => ?_) (fun q24 => ?_)
      · skip
        have m25 := P9.1
        have m26 := P11.1
        have m27 := F13.bq
        have k28 := F13.parts
        refine Wo.nil ?_
        refine Wp.cond false (by kernel_rfl) ?_
        refine Wp.skip ?_
        refine Wp.seq ?_
        refine Wp.region ?_
        refine Wo.pre 2 (by kernel_rfl) ?_
        have F29 := (hO.fr ((X9.transL X11).transR X19.fr) (by have d0 := m1.1.e; (first | omega | (intro s hs; omega) | (dsimp only; omega) | (intro s hs; dsimp only at hs; omega) | (simp only [blk_nils, blk_sl]; omega) | (intro s hs; simp only [blk_nils, blk_sl] at hs ⊢; omega) | (simp; done))))
        obtain ⟨r30, H31, c32, z33, rfl, X35, q36⟩ := wvec3 F29.bs q20.bs (by first | omega | (simp; omega) | (simp; done) | assumption) hr
        have m37 := X35.1
        have m38 := q36.bq
        have k39 := q36.parts
        refine Wo.call (by kernel_rfl) (by kernel_rfl) c32 ?_
        clear c32
        refine Wo.pre 5 (by kernel_rfl) ?_
        refine Wo.nil ?_
        refine Wp.seq ?_
        refine Wp.region ?_
        refine Wo.pre 1 (by kernel_rfl) ?_
        refine Wo.pre 1 (by kernel_rfl) ?_
        refine Wo.nil ?_
        refine Wp.cond false (by kernel_rfl) ?_
        refine Wp.skip ?_
        refine Wp.region ?_
        refine Wo.val (.int IntKind.i64 ((↑i : Int) + (1 : Int))) H31 (by kernel_rfl) (iop_arith (op := .add) (a := ↑i) (b := 1) (by kernel_rfl) (by kernel_rfl) (by simp) (bin_add IntKind.i64 (by simp only [min_i64]; omega) (by simp only [max_i64]; omega))) ?_
        refine Wo.pre 1 (by kernel_rfl) ?_
        refine Wo.nil ?_
        exact ih (i + 1) (by omega) _ _ _ (((((hE.fr.trans0 X9).transL X11).transR X19.fr).transR X35.fr).ext (by intro s hs; first | omega | (dsimp only at hs; omega) | (simp only [blk_nils, blk_sl] at hs ⊢; omega))) (by rw [← take_bytes hp (leafE_zero ‹leafE _ = 0›)]; exact (q36.mono (by omega))) (by exact take_may hm hp (leafE_zero ‹leafE _ = 0›)) (by kernel_rfl) (by kernel_rfl) (by kernel_rfl) (by kernel_rfl) (by kernel_rfl) Q hQ hQ'
      · skip
        have m40 := P9.1
        have m41 := P11.1
        have m42 := F13.bq
        have k43 := F13.parts
        refine Wo.nil ?_
        refine Wp.cond true (by kernel_rfl) ?_
        refine Wp.seq ?_
        refine Wp.region ?_
        refine Wo.pre 2 (by kernel_rfl) ?_
        refine Wo.nil ?_
        refine Wp.ret ?_
        exact hQ' _ _ (by exact bad_may hp (fun hh => ‹¬ leafE _ = 0› (leafE_ok hh))) ((((hE.fr.trans0 X9).transL X11).transR X19.fr).ext (by intro s hs; first | omega | (dsimp only at hs; omega) | (simp only [blk_nils, blk_sl] at hs ⊢; omega))) (by kernel_rfl) (by kernel_rfl)
    · skip
      (exfalso; omega)

theorem mayR_len {rs : List Rec} (h : ¬ (1 ≤ rs.length ∧ rs.length ≤ 16)) : mayR rs = false := by
  have : ¬ mayR rs = true := fun e => h ⟨(mayR_iff.1 e).1, (mayR_iff.1 e).2.1⟩
  simpa using this
theorem putE_bad {rs : List Rec} (h : mayR rs = false) : putE rs = 1 ∧ putX rs = [] := by simp [putE, putX, h]
theorem putE_ok {rs : List Rec} (h1 : 1 ≤ rs.length) (h2 : rs.length ≤ 16) (h : ∀ r ∈ rs, mayS r.2 = true) : putE rs = 0 ∧ putX rs = bytesR rs := by
  have := mayR_iff.2 ⟨h1, h2, h⟩
  simp [putE, putX, this]

set_option maxHeartbeats 8000000 in
theorem put64_run {h : H} {v : AV} {xs : List Ent} (hc : Es h v xs) (hf : FewE xs) : ∃ r h', Runs TF 64 [v] h r h' ∧ ∃ z, r = .tup [z, .int .i64 (putE (recsE xs))] ∧ Ext h h' ∧ Ow h.n h' z (putX (recsE xs)) := by
  refine Runs.ofP f64 rfl ?_
  have hmx : 200000000000000 = maxRow := rfl
  have hrl := recs_len (xs := xs)
  by_cases hx : 1 ≤ xs.length ∧ xs.length ≤ 16
  · obtain ⟨hx1, hx2⟩ := hx
    have m1 := hc.bq
    have k2 := hc.parts
    refine Wp.seq ?_
    refine Wp.region ?_
    refine Wo.pre 2 (by kernel_rfl) ?_
    refine Wo.nil ?_
    refine Wp.seq ?_
    refine Wp.seq ?_
    refine Wp.region ?_
    refine Wo.pre 1 (by kernel_rfl) ?_
    refine Wo.val (.int .i64 (List.length (xs) : Nat)) h (by kernel_rfl) (iop_lenS (v := v) (by kernel_rfl) hc.lenS) ?_
    refine Wo.cmp (op := .lss) (x := IX.t 10) (y := IX.c (AV.int IntKind.i64 1)) (k := IntKind.i64) (a := ↑xs.length) (b := 1) ((↑xs.length : Int) < (1 : Int)) (by kernel_rfl) (by kernel_rfl) (by kernel_rfl) (by kernel_rfl) (by simp) (by kernel_rfl) (fun q3 => ?_) (fun q3 => ?_)
    · (exfalso; omega)
    refine Wo.pre 2 (by kernel_rfl) ?_
    refine Wo.val (.int .i64 (List.length (xs) : Nat)) h (by kernel_rfl) (iop_lenS (v := v) (by kernel_rfl) hc.lenS) ?_
    refine Wo.cmp (op := .gtr) (x := IX.t 14) (y := IX.c (AV.int IntKind.i64 16)) (k := IntKind.i64) (a := ↑xs.length) (b := 16) ((↑xs.length : Int) > (16 : Int)) (by kernel_rfl) (by kernel_rfl) (by kernel_rfl) (by kernel_rfl) (by simp) (by kernel_rfl) (fun q4 => ?_) (fun q4 => ?_)
    · (exfalso; omega)
    refine Wo.pre 1 (by kernel_rfl) ?_
    refine Wo.nil ?_
    refine Wp.cond false (by kernel_rfl) ?_
    refine Wp.skip ?_
    refine Wp.seq ?_
    refine Wp.region ?_
    refine Wo.pre 1 (by kernel_rfl) ?_
    refine Wo.nil ?_
    refine Wp.seq ?_
    refine Wp.seq ?_
    refine Wp.region ?_
    refine Wo.pre 1 (by kernel_rfl) ?_
    refine Wo.val (.int .i64 (List.length (xs) : Nat)) h (by kernel_rfl) (iop_lenS (v := v) (by kernel_rfl) hc.lenS) ?_
    refine Wo.pre 1 (by kernel_rfl) ?_
    refine Wo.nil ?_
    refine Wp.block ?_
    refine put64_loop hc hx2 hf xs.length 0 (by omega) h .nils _ (Ext.refl _) Ow.nil0 (by simp [recsE]) (by kernel_rfl) (by kernel_rfl) (by kernel_rfl) (by kernel_rfl) (by kernel_rfl) _ ?_ ?_
    · intro ts' h' bV hE hO hm t0 tb
      obtain ⟨e1, e2⟩ := putE_ok (by rw [hrl]; exact hx1) (by rw [hrl]; exact hx2) hm
      rw [e1, e2]
      show Wp TF _ _ _
      rw [laid_eq t0 [(4, bV)] (by simp [tb])]
      have m1 := hc.bq
      have k2 := hc.parts
      have m3 := hO.bq
      have k4 := hO.parts
      have m5 := hE.1
      refine Wp.seq ?_
      refine Wp.region ?_
      refine Wo.pre 3 (by kernel_rfl) ?_
      refine Wo.nil ?_
      refine Wp.ret ?_
      refine ⟨.inr rfl, (.tup [bV, AV.int IntKind.i64 0]), (ret_many (res_tmp (by kernel_rfl) (res_tmp (by kernel_rfl) res_nil)) rfl), ?_⟩
      dsimp only
      exact ⟨bV, rfl, hE, hO⟩
    · intro ts' h' hm hE t2 t3
      obtain ⟨e1, e2⟩ := putE_bad hm
      rw [e1, e2]
      exact ⟨.inr rfl, .tup [.nils, .int .i64 1], ret_many (res_tmp (by rw [t2]; rfl) (res_tmp (by rw [t3]; rfl) res_nil)) rfl, .nils, rfl, hE, Ow.nil0⟩
  · have hb := putE_bad (mayR_len (rs := recsE xs) (by rw [hrl]; exact hx))
    rw [hb.1, hb.2]
    have m1 := hc.bq
    have k2 := hc.parts
    refine Wp.seq ?_
    refine Wp.region ?_
    refine Wo.pre 2 (by kernel_rfl) ?_
    refine Wo.nil ?_
    refine Wp.seq ?_
    refine Wp.seq ?_
    refine Wp.region ?_
    refine Wo.pre 1 (by kernel_rfl) ?_
    refine Wo.val (.int .i64 (List.length (xs) : Nat)) h (by kernel_rfl) (iop_lenS (v := v) (by kernel_rfl) hc.lenS) ?_
    refine Wo.cmp (op := .lss) (x := IX.t 10) (y := IX.c (AV.int IntKind.i64 1)) (k := IntKind.i64) (a := ↑xs.length) (b := 1) ((↑xs.length : Int) < (1 : Int)) (by kernel_rfl) (by kernel_rfl) (by kernel_rfl) (by kernel_rfl) (by simp) (by kernel_rfl) (fun q3 => ?_) (fun q3 => ?_)
    · skip
      refine Wo.pre 3 (by kernel_rfl) ?_
      refine Wo.pre 1 (by kernel_rfl) ?_
      refine Wo.pre 1 (by kernel_rfl) ?_
      refine Wo.nil ?_
      refine Wp.cond true (by kernel_rfl) ?_
      refine Wp.seq ?_
      refine Wp.region ?_
      refine Wo.pre 2 (by kernel_rfl) ?_
      refine Wo.nil ?_
      refine Wp.ret ?_
      refine ⟨.inr rfl, (.tup [AV.nils, AV.int IntKind.i64 1]), (ret_many (res_tmp (by kernel_rfl) (res_tmp (by kernel_rfl) res_nil)) rfl), ?_⟩
      dsimp only
      exact ⟨.nils, rfl, (Ext.refl _), Ow.nil0⟩
    · skip
      refine Wo.pre 2 (by kernel_rfl) ?_
      refine Wo.val (.int .i64 (List.length (xs) : Nat)) h (by kernel_rfl) (iop_lenS (v := v) (by kernel_rfl) hc.lenS) ?_
      refine Wo.cmp (op := .gtr) (x := IX.t 14) (y := IX.c (AV.int IntKind.i64 16)) (k := IntKind.i64) (a := ↑xs.length) (b := 16) ((↑xs.length : Int) > (16 : Int)) (by kernel_rfl) (by kernel_rfl) (by kernel_rfl) (by kernel_rfl) (by simp) (by kernel_rfl) (fun q4 => ?_) (fun q4 => ?_)
      rotate_left
      · (exfalso; omega)
      refine Wo.pre 1 (by kernel_rfl) ?_
      refine Wo.nil ?_
      refine Wp.cond true (by kernel_rfl) ?_
      refine Wp.seq ?_
      refine Wp.region ?_
      refine Wo.pre 2 (by kernel_rfl) ?_
      refine Wo.nil ?_
      refine Wp.ret ?_
      refine ⟨.inr rfl, (.tup [AV.nils, AV.int IntKind.i64 1]), (ret_many (res_tmp (by kernel_rfl) (res_tmp (by kernel_rfl) res_nil)) rfl), ?_⟩
      dsimp only
      exact ⟨.nils, rfl, (Ext.refl _), Ow.nil0⟩
end Go.Det

/- Bundles read: the walks. -/
set_option linter.unusedVariables false
set_option linter.unusedSimpArgs false
set_option linter.unusedSectionVars false
namespace Go.Det
open Go.Proofs
attribute [local irreducible] Wp Wo Wd iop ev slots quiets wanted put

/-- A number that fits the kind that it is made. -/
theorem iop_cvIfit {k kk : IntKind} {x : IX} {ρ : IX → AV} {h : H} {a : Int} (hx : ρ x = .int kk a) (h1 : k.min ≤ a) (h2 : a ≤ k.max) : iop (.cvI k x) ρ h = some (.val (.int k a) h) := by
  simp only [iop, hx, asI, Option.map_some, fit_kind k _ h1 h2]

theorem takerecJ {h : H} {y : AV} {l : List UInt8} (hy : Bs h y l) (hl : l.length ≤ maxRow) : ∃ r h', Runs TF 54 [y] h r h' ∧ ∃ t z ps E, r = .tup [entV t z, .int .i64 E] ∧ Ext h h' ∧ OwI h.n h'.n h' z ps ∧ recOf l = (t, says ps, E) ∧ t < 2 ^ 64 := by
  obtain ⟨r, h', c, t, z, ps, E, e, x, o, q⟩ := takerecI hy hl
  exact ⟨r, h', c, t, z, ps, E, e, x, o, q, by rcases rec_dec q with h1 | h1 <;> omega⟩
theorem takeF_sixteen {k n : Nat} {l : List UInt8} (hl : l ≠ []) (h : n = 16) : takeF (k + 1) n l = none := takeF_bad hl (fun e => e.2 h)
theorem takeF_ve {k n : Nat} {l : List UInt8} (hl : l ≠ []) (h : ¬ vE l 3 = 0) : takeF (k + 1) n l = none := takeF_bad hl (fun e => h e.1)
theorem takeF_norec {k n : Nat} {l : List UInt8} (hl : l ≠ []) (h : vE l 3 = 0) (h2 : ¬ n = 16) {t : Nat} {cs : List (List UInt8)} {E : Int} (hr : recOf (vX l 3) = (t, cs, E)) (hE : ¬ E = 0) : takeF (k + 1) n l = none := by rw [takeF_rec hl h h2 hr, if_neg hE]
theorem takeF_yes {k n : Nat} {l : List UInt8} (hl : l ≠ []) (h : vE l 3 = 0) (h2 : ¬ n = 16) {t : Nat} {cs : List (List UInt8)} {E : Int} (hr : recOf (vX l 3) = (t, cs, E)) (hE : E = 0) : takeF (k + 1) n l = (takeF k (n + 1) (vL l 3)).map ((t, cs) :: ·) := by rw [takeF_rec hl h h2 hr, if_pos hE]
theorem recs_add {ys : List Ent} {t : Nat} {z : AV} {ps : List (AV × List UInt8)} : recsE (ys ++ [Ent.mk t z ps]) = recsE ys ++ [(t, says ps)] := by simp [recsE, Ent.tell]

theorem takeF_goS {k : Nat} {l : List UInt8} {ys : List Ent} {t : Nat} {z : AV} {ps : List (AV × List UInt8)} {E : Int} {rs : List Rec} (hl : l ≠ []) (hv : vE l 3 = 0) (hn : ¬ (ys.length : Int) = 16) (hr : recOf (vX l 3) = (t, says ps, E)) (hE : E = 0) (q : takeF k (ys ++ [Ent.mk t z ps]).length (vL l 3) = some rs) : takeF (k + 1) ys.length l = some ((t, says ps) :: rs) := by
  rw [takeF_yes hl hv (by omega) hr hE]
  rw [List.length_append] at q
  exact congrArg (Option.map _) q
theorem takeF_goN {k : Nat} {l : List UInt8} {ys : List Ent} {t : Nat} {z : AV} {ps : List (AV × List UInt8)} {E : Int} (hl : l ≠ []) (hv : vE l 3 = 0) (hn : ¬ (ys.length : Int) = 16) (hr : recOf (vX l 3) = (t, says ps, E)) (hE : E = 0) (q : takeF k (ys ++ [Ent.mk t z ps]).length (vL l 3) = none) : takeF (k + 1) ys.length l = none := by
  rw [takeF_yes hl hv (by omega) hr hE]
  rw [List.length_append] at q
  exact congrArg (Option.map _) q
theorem recs_go {ys zs : List Ent} {t : Nat} {z : AV} {ps : List (AV × List UInt8)} {rs : List Rec} (q : recsE zs = recsE (ys ++ [Ent.mk t z ps]) ++ rs) : recsE zs = recsE ys ++ ((t, says ps) :: rs) := by rw [q, recs_add, List.append_assoc]; rfl

attribute [local irreducible] recOf takeF
set_option maxHeartbeats 8000000 in
theorem take66_loop {hb : H} {rb : Nat} (hrb : rb < hb.n) :
    ∀ (k : Nat) (l : List UInt8), l.length ≤ k → l.length ≤ maxRow → ∀ (h : H) (u lV : AV) (ys : List Ent) (ts : List AV), Rd h rb u l → blk u ≤ hb.n → Fr (fun s => s = rb + 1) hb h → OwE hb.n h lV ys → ys.length ≤ 16 → ts.length = 44 → getL ts 4 = some (.ptr ⟨rb, 0, 0⟩) → getL ts 5 = some (.fn (.func 29) [.ptr ⟨rb, 0, 0⟩] []) → getL ts 6 = some lV →
      ∀ (Q : Ex → St → Prop), (∀ ts' h' lV' zs rs, takeF k ys.length l = some rs → Fr (fun s => s = rb + 1) hb h' → OwE hb.n h' lV' zs → recsE zs = recsE ys ++ rs → ts'.length = 44 → getL ts' 6 = some lV' → Q (.exit 0) (ts', h')) → (∀ ts' h', takeF k ys.length l = none → Fr (fun s => s = rb + 1) hb h' → getL ts' 2 = some .nils → getL ts' 3 = some (.int .i64 5) → Q .ret (ts', h')) → Wp TF (.loop l66_1) (ts, h) Q := by
  have hmx : 200000000000000 = maxRow := rfl
  intro k
  induction k with
  | zero =>
    intro l hk hm h u lV ys ts hR hu hF hO hy t0 t4 t5 t6 Q hQ hQ'
    obtain rfl : l = [] := List.length_eq_zero_iff.1 (by omega)
    have n0 := hF.1
    refine Wp.loop ?_
    rw [laid_eq t0 [(4, .ptr ⟨rb, 0, 0⟩), (5, .fn (.func 29) [.ptr ⟨rb, 0, 0⟩] []), (6, lV)] (by simp [t4, t5, t6])]
    have m1 := hO.bq
    have k2 := hO.parts
    have m3 := hR.bq
    have m4 := hF.1
    refine Wp.seq ?_
    refine Wp.seq ?_
    refine Wp.region ?_
    refine Wo.pre 1 (by kernel_rfl) ?_
    have c5 := left_run (b := rb) hR
    refine Wo.call (by kernel_rfl) (by kernel_rfl) c5 ?_
    clear c5
    refine Wo.pre 1 (by kernel_rfl) ?_
    refine Wo.nil ?_
    refine Wp.cond false (by kernel_rfl) ?_
    refine Wp.exit ?_
    exact hQ _ _ lV ys [] (takeF_nil _ _) hF hO (by simp) (by kernel_rfl) (by kernel_rfl)
  | succ k ih =>
    intro l hk hm h u lV ys ts hR hu hF hO hy t0 t4 t5 t6 Q hQ hQ'
    have n0 := hF.1
    by_cases hl : l = []
    · subst hl
      refine Wp.loop ?_
      rw [laid_eq t0 [(4, .ptr ⟨rb, 0, 0⟩), (5, .fn (.func 29) [.ptr ⟨rb, 0, 0⟩] []), (6, lV)] (by simp [t4, t5, t6])]
      have m1 := hO.bq
      have k2 := hO.parts
      have m3 := hR.bq
      have m4 := hF.1
      refine Wp.seq ?_
      refine Wp.seq ?_
      refine Wp.region ?_
      refine Wo.pre 1 (by kernel_rfl) ?_
      have c5 := left_run (b := rb) hR
      refine Wo.call (by kernel_rfl) (by kernel_rfl) c5 ?_
      clear c5
      refine Wo.pre 1 (by kernel_rfl) ?_
      refine Wo.nil ?_
      refine Wp.cond false (by kernel_rfl) ?_
      refine Wp.exit ?_
      exact hQ _ _ lV ys [] (takeF_nil _ _) hF hO (by simp) (by kernel_rfl) (by kernel_rfl)
    · have hpos : 0 < l.length := List.length_pos_iff.2 hl
      have r4 := vX_len l 3
      have r5 := vL_len l 3
      refine Wp.loop ?_
      rw [laid_eq t0 [(4, .ptr ⟨rb, 0, 0⟩), (5, .fn (.func 29) [.ptr ⟨rb, 0, 0⟩] []), (6, lV)] (by simp [t4, t5, t6])]
      have m1 := hR.bq
      have m2 := hO.bq
      have k3 := hO.parts
      have m4 := hF.1
      refine Wp.seq ?_
      refine Wp.seq ?_
      refine Wp.region ?_
      refine Wo.pre 1 (by kernel_rfl) ?_
      have c5 := left_run (b := rb) hR
      refine Wo.call (by kernel_rfl) (by kernel_rfl) c5 ?_
      clear c5
      refine Wo.cmp (op := .gtr) (x := IX.t 15) (y := IX.c (AV.int IntKind.i64 0)) (k := IntKind.i64) (a := ↑l.length) (b := 0) ((↑l.length : Int) > (0 : Int)) (by kernel_rfl) (by kernel_rfl) (by kernel_rfl) (by kernel_rfl) (by simp) (by kernel_rfl) (fun q6 => ?_) (fun q6 => ?_)
      rotate_left
      · (exfalso; omega)
      refine Wo.nil ?_
      refine Wp.cond true (by kernel_rfl) ?_
      refine Wp.skip ?_
      refine Wp.block ?_
      refine Wp.seq ?_
      refine Wp.region ?_
      refine Wo.pre 1 (by kernel_rfl) ?_
      obtain ⟨H7, x8, v9, c10, q11, q12, X13, q14⟩ := vec_any (b := rb) hR (3) hm
      have m15 := q11.bq
      have m16 := q12.bq
      have k17 := q12.parts
      have m18 := X13.1
      have m19 := q14.bq
      refine Wo.call (by kernel_rfl) (by kernel_rfl) c10 ?_
      clear c10
      refine Wo.pre 5 (by kernel_rfl) ?_
      refine Wo.nil ?_
      refine Wp.seq ?_
      refine Wp.seq ?_
      refine Wp.region ?_
      refine Wo.pre 1 (by kernel_rfl) ?_
      refine Wo.cmpN (op := .neq) (x := IX.t 22) (y := IX.c (AV.int IntKind.i64 0)) (k := IntKind.i64) (a := vE l 3) (b := 0) ((vE l 3 : Int) = (0 : Int)) (by kernel_rfl) (by kernel_rfl) (by kernel_rfl) (by kernel_rfl) (by simp) (by kernel_rfl) (fun q20 => ?_) (fun q20 => ?_)
      · skip
        refine Wo.pre 2 (by kernel_rfl) ?_
        have F21 := (hO.fr X13.fr (by have d0 := m2.1.e; (first | omega | (intro s hs; omega) | (dsimp only; omega) | (intro s hs; dsimp only at hs; omega) | (simp only [blk_nils, blk_sl]; omega) | (intro s hs; simp only [blk_nils, blk_sl] at hs ⊢; omega) | (simp; done))))
        refine Wo.val (.int .i64 (List.length (ys) : Nat)) H7 (by kernel_rfl) (iop_lenS (v := lV) (by kernel_rfl) F21.es.lenS) ?_
        refine Wo.cmp (op := .eql) (x := IX.t 26) (y := IX.c (AV.int IntKind.i64 16)) (k := IntKind.i64) (a := ↑ys.length) (b := 16) ((↑ys.length : Int) = (16 : Int)) (by kernel_rfl) (by kernel_rfl) (by kernel_rfl) (by kernel_rfl) (by simp) (by kernel_rfl) (fun q22 => ?_) (fun q22 => ?_)
        · skip
          have m23 := F21.bq
          have k24 := F21.parts
          refine Wo.pre 1 (by kernel_rfl) ?_
          refine Wo.nil ?_
          refine Wp.cond true (by kernel_rfl) ?_
          refine Wp.seq ?_
          refine Wp.region ?_
          refine Wo.pre 2 (by kernel_rfl) ?_
          refine Wo.nil ?_
          refine Wp.ret ?_
          exact hQ' _ _ (by exact takeF_sixteen hl (by omega)) ((hF.trans X13.fr).mono (by intro s hb hs; first | omega | (dsimp only at hs ⊢; omega) | (simp only [blk_nils, blk_sl] at hs ⊢; omega))) (by kernel_rfl) (by kernel_rfl)
        · skip
          have m25 := F21.bq
          have k26 := F21.parts
          refine Wo.pre 1 (by kernel_rfl) ?_
          refine Wo.nil ?_
          refine Wp.cond false (by kernel_rfl) ?_
          refine Wp.skip ?_
          refine Wp.seq ?_
          refine Wp.region ?_
          refine Wo.pre 1 (by kernel_rfl) ?_
          obtain ⟨r27, H28, c29, t30, z31, ps32, E33, rfl, X35, q36, q37, q38⟩ := takerecJ q12.bs (by first | omega | (simp; omega) | (simp; done) | assumption)
          have m39 := X35.1
          have m40 := q36.bq
          have k41 := q36.parts
          refine Wo.call (by kernel_rfl) (by kernel_rfl) c29 ?_
          clear c29
          refine Wo.pre 3 (by kernel_rfl) ?_
          obtain ⟨H42, e42, P42, X42, n42⟩ := pt_new H28 70 [AV.int IntKind.u64 0, AV.nils] (ones_cons rfl (ones_cons rfl ones_nil))
          refine Wo.val (.ptr ⟨H.n H28, 0, 0⟩) H42 (by kernel_rfl) (e42 (v := AV.agg [AV.int IntKind.u64 0, AV.nils]) (by kernel_rfl) rfl) ?_
          clear e42
          have m43 := X42.1
          obtain ⟨H44, e44, P44, X44, n44⟩ := P42.st 0 [AV.int IntKind.u64 ↑t30, z31] (by simp) (ones_cons rfl (ones_cons k41.2.1 ones_nil))
          refine Wo.val .undef H44 (by kernel_rfl) (iop_stP (a := { b := H28.n, g := 0, o := 0 }) (v := AV.agg [AV.int IntKind.u64 ↑t30, z31]) (vs := [AV.int IntKind.u64 ↑t30, z31]) (by kernel_rfl) (by kernel_rfl) rfl rfl e44) ?_
          have m45 := X44.1
          replace P44 : Pt H44 H28.n (Blk.cells 0 70 [AV.int IntKind.u64 ↑t30, z31] 0 false) := P44
          refine Wo.pre 1 (by kernel_rfl) ?_
          refine Wo.nil ?_
          refine Wp.seq ?_
          refine Wp.seq ?_
          refine Wp.region ?_
          refine Wo.pre 1 (by kernel_rfl) ?_
          refine Wo.cmpN (op := .neq) (x := IX.t 34) (y := IX.c (AV.int IntKind.i64 0)) (k := IntKind.i64) (a := E33) (b := 0) ((E33 : Int) = (0 : Int)) (by kernel_rfl) (by kernel_rfl) (by kernel_rfl) (by kernel_rfl) (by simp) (by kernel_rfl) (fun q46 => ?_) (fun q46 => ?_)
          · skip
            have m47 := P42.1
            have m48 := P44.1
            refine Wo.nil ?_
            refine Wp.cond false (by kernel_rfl) ?_
            refine Wp.skip ?_
            refine Wp.region ?_
            refine Wo.pre 1 (by kernel_rfl) ?_
            refine Wo.val (AV.agg [AV.int IntKind.u64 ↑t30, z31]) H44 (by kernel_rfl) (iop_ldP P44 (a := { b := H28.n, g := 0, o := 0 }) (by kernel_rfl) rfl (by kernel_rfl)) ?_
            obtain ⟨H49, e49, P49, X49, n49⟩ := bsl_new H44 70 [AV.int IntKind.u64 ↑t30, z31] (ones_cons rfl (ones_cons k41.2.1 ones_nil))
            refine Wo.val (.sl ⟨H.n H44, 0, 0⟩ 1 (.ex 1)) H49 (by kernel_rfl) (e49 (fill_cons (v := AV.agg [AV.int IntKind.u64 ↑t30, z31]) (vs := [AV.int IntKind.u64 ↑t30, z31]) (by kernel_rfl) rfl (by kernel_rfl) rfl)) ?_
            clear e49
            have m50 := X49.1
            have F51 := (F21.fr (((X35.fr.trans0 X42).transL X44).transR X49) (by have d0 := m2.1.e; have d1 := m25.1.e; (first | omega | (intro s hs; omega) | (dsimp only; omega) | (intro s hs; dsimp only at hs; omega) | (simp only [blk_nils, blk_sl]; omega) | (intro s hs; simp only [blk_nils, blk_sl] at hs ⊢; omega) | (simp; done))))
            have F52 := (q36.fr ((X42.transL X44).transR X49) (by have d0 := m40.1.e; (first | omega | (intro s hs; omega) | (dsimp only; omega) | (intro s hs; dsimp only at hs; omega) | (simp only [blk_nils, blk_sl]; omega) | (intro s hs; simp only [blk_nils, blk_sl] at hs ⊢; omega) | (simp; done))))
            obtain ⟨v53, H54, a55, q56, X57⟩ := app70_one (lo := hb.n) (lo2 := H7.n) (hi2 := H28.n) (b := H44.n) (t := t30) P49 F51 F52 q38 (by first | omega | (simp; omega) | (simp; done) | assumption) (by first | omega | (simp; omega) | (simp; done) | assumption) (by first | omega | (simp; omega) | (simp; done) | assumption)
            refine Wo.val _ _ (by kernel_rfl) (iop_appG (v := lV) (w := AV.sl { b := H44.n, g := 0, o := 0 } 1 (Cp.ex 1)) (by kernel_rfl) (by kernel_rfl) rfl a55) ?_
            have m58 := q56.bq
            have k59 := q56.parts
            have m60 := X57.1
            refine Wo.pre 1 (by kernel_rfl) ?_
            refine Wo.nil ?_
            exact ih (vL l 3) (by have := vL3_len ‹vE l 3 = 0›; omega) (by omega) _ _ _ _ _ (q11.fr ((((X35.fr.trans0 X42).transL X44).transR X49).trans X57) (by have d0 := m2.1.e; have d1 := m15.1.e; have d2 := m19.e; have d3 := m25.1.e; have d4 := m1.1.e; (first | omega | (intro s hs; omega) | (dsimp only; omega) | (intro s hs; dsimp only at hs; omega) | (simp only [blk_nils, blk_sl]; omega) | (intro s hs; simp only [blk_nils, blk_sl] at hs ⊢; omega) | (simp; done)))) (by ((rcases SB.blk ‹SB _ _› with e | e <;> omega))) (((((((hF.trans X13.fr).transR X35.fr).transR X42).trans X44).transR X49).trans X57).mono (by have d0 := m2.1.e; have d1 := m25.1.e; intro s hb hs; first | omega | (dsimp only at hs ⊢; omega) | (simp only [blk_nils, blk_sl] at hs ⊢; omega))) q56 (by ((rw [List.length_append]; simp only [List.length_cons, List.length_nil]; omega))) (by kernel_rfl) (by kernel_rfl) (by kernel_rfl) (by kernel_rfl) Q (fun ts' h' lV' zs rs q1 q2 q3 q4 q5 q6 => hQ ts' h' lV' zs _ (takeF_goS hl ‹vE l 3 = 0› ‹¬ _ = (16 : Int)› ‹recOf _ = _› ‹_ = (0 : Int)› q1) q2 q3 (recs_go q4) q5 q6) (fun ts' h' q1 q2 q3 q4 => hQ' ts' h' (takeF_goN hl ‹vE l 3 = 0› ‹¬ _ = (16 : Int)› ‹recOf _ = _› ‹_ = (0 : Int)› q1) q2 q3 q4)
          · skip
            have m61 := P42.1
            have m62 := P44.1
            refine Wo.nil ?_
            refine Wp.cond true (by kernel_rfl) ?_
            refine Wp.seq ?_
            refine Wp.region ?_
            refine Wo.pre 2 (by kernel_rfl) ?_
            refine Wo.nil ?_
            refine Wp.ret ?_
            exact hQ' _ _ (by exact takeF_norec hl ‹vE l 3 = 0› (by omega) ‹recOf _ = _› ‹¬ _ = (0 : Int)›) (((((hF.trans X13.fr).transR X35.fr).transR X42).trans X44).mono (by intro s hb hs; first | omega | (dsimp only at hs ⊢; omega) | (simp only [blk_nils, blk_sl] at hs ⊢; omega))) (by kernel_rfl) (by kernel_rfl)
      · skip
        refine Wo.pre 3 (by kernel_rfl) ?_
        refine Wo.pre 1 (by kernel_rfl) ?_
        refine Wo.pre 1 (by kernel_rfl) ?_
        refine Wo.nil ?_
        refine Wp.cond true (by kernel_rfl) ?_
        refine Wp.seq ?_
        refine Wp.region ?_
        refine Wo.pre 2 (by kernel_rfl) ?_
        refine Wo.nil ?_
        refine Wp.ret ?_
        exact hQ' _ _ (by exact takeF_ve hl ‹¬ vE l 3 = 0›) ((hF.trans X13.fr).mono (by intro s hb hs; first | omega | (dsimp only at hs ⊢; omega) | (simp only [blk_nils, blk_sl] at hs ⊢; omega))) (by kernel_rfl) (by kernel_rfl)

theorem takeOf_none {l : List UInt8} (h : takeF l.length 0 l = none) : takeOf l = ([], 5) := by
  have e : takeA l = none := h
  rw [takeOf, e]
theorem takeOf_some {l : List UInt8} {zs : List Ent} {rs : List Rec} (h : takeF l.length 0 l = some rs) (hz : recsE zs = rs) (hn : zs.length ≠ 0) : takeOf l = (recsE zs, 0) := by
  have e : takeA l = some rs := h
  subst hz
  cases zs with
  | nil => simp at hn
  | cons z zs => rw [takeOf, e]; rfl
theorem takeOf_empty {l : List UInt8} {zs : List Ent} {rs : List Rec} (h : takeF l.length 0 l = some rs) (hz : recsE zs = rs) (hn : zs.length = 0) : takeOf l = ([], 5) := by
  have e : takeA l = some rs := h
  subst hz
  obtain rfl := List.length_eq_zero_iff.1 hn
  rw [takeOf, e]; rfl

attribute [local irreducible] takeOf
set_option maxHeartbeats 8000000 in
theorem take66_run {h : H} {v : AV} {l : List UInt8} (hv : Bs h v l) (hl : l.length ≤ maxRow) : ∃ r h', Runs TF 66 [v] h r h' ∧ ∃ z xs E, r = .tup [z, .int .i64 E] ∧ Ext h h' ∧ OwE h.n h' z xs ∧ takeOf l = (recsE xs, E) := by
  refine Runs.ofP f66 rfl ?_
  have hmx : 200000000000000 = maxRow := rfl
  obtain ⟨p, h2, c2, rb, u, rfl, hrb, hR2, hX2, hu, hub⟩ := new_run hv hl
  have k2 := hX2.1
  have hu2 := hR2.bs.bd
  have m1 := hv.bq
  have k2 := hv.parts
  have m3 := hR2.bq
  have m4 := hu.bq
  have k5 := hu.parts
  have m6 := hX2.1
  refine Wp.seq ?_
  refine Wp.region ?_
  refine Wo.pre 2 (by kernel_rfl) ?_
  refine Wo.nil ?_
  refine Wp.seq ?_
  refine Wp.region ?_
  refine Wo.pre 1 (by kernel_rfl) ?_
  refine Wo.call (by kernel_rfl) (by kernel_rfl) c2 ?_
  clear c2
  refine Wo.pre 1 (by kernel_rfl) ?_
  refine Wo.nil ?_
  refine Wp.seq ?_
  refine Wp.region ?_
  refine Wo.pre 3 (by kernel_rfl) ?_
  refine Wo.nil ?_
  refine Wp.seq ?_
  refine Wp.region ?_
  refine Wo.pre 1 (by kernel_rfl) ?_
  refine Wo.nil ?_
  refine Wp.seq ?_
  refine Wp.block ?_
  refine take66_loop hR2.1 l.length l (Nat.le_refl _) hl h2 u .nils [] _ hR2 hu2 ⟨Nat.le_refl _, fun _ _ _ => rfl⟩ OwE.nil0 (by simp) (by kernel_rfl) (by kernel_rfl) (by kernel_rfl) (by kernel_rfl) _ ?_ ?_
  · intro ts' h' lV zs rs q1 q2 q3 q4 t0 t6
    have hE : Ext h h' := ⟨by have := q2.1; omega, fun k hk => by rw [q2.2 k (by omega) (by omega)]; exact hX2.2 k hk⟩
    have q5 : OwE h.n h' lV zs := q3.mono (by omega)
    show Wp TF _ _ _
    rw [laid_eq t0 [(6, lV)] (by simp [t6])]
    have m1 := hv.bq
    have k2 := hv.parts
    have m3 := hR2.bq
    have m4 := hu.bq
    have k5 := hu.parts
    have m6 := q3.bq
    have k7 := q3.parts
    have m8 := q5.bq
    have k9 := q5.parts
    have m10 := hX2.1
    have m11 := q2.1
    have m12 := hE.1
    refine Wp.seq ?_
    refine Wp.seq ?_
    refine Wp.region ?_
    refine Wo.pre 1 (by kernel_rfl) ?_
    refine Wo.val (.int .i64 (List.length (zs) : Nat)) h' (by kernel_rfl) (iop_lenS (v := lV) (by kernel_rfl) q5.es.lenS) ?_
    refine Wo.cmp (op := .eql) (x := IX.t 41) (y := IX.c (AV.int IntKind.i64 0)) (k := IntKind.i64) (a := ↑zs.length) (b := 0) ((↑zs.length : Int) = (0 : Int)) (by kernel_rfl) (by kernel_rfl) (by kernel_rfl) (by kernel_rfl) (by simp) (by kernel_rfl) (fun q13 => ?_) (fun q13 => ?_)
    · skip
      refine Wo.nil ?_
      refine Wp.cond true (by kernel_rfl) ?_
      refine Wp.seq ?_
      refine Wp.region ?_
      refine Wo.pre 2 (by kernel_rfl) ?_
      refine Wo.nil ?_
      refine Wp.ret ?_
      refine ⟨.inr rfl, (.tup [AV.nils, AV.int IntKind.i64 5]), (ret_many (res_tmp (by kernel_rfl) (res_tmp (by kernel_rfl) res_nil)) rfl), ?_⟩
      dsimp only
      exact ⟨.nils, [], 5, rfl, hE, OwE.nil0, (by (exact takeOf_empty q1 (by rw [q4]; rfl) (by omega)))⟩
    · skip
      refine Wo.nil ?_
      refine Wp.cond false (by kernel_rfl) ?_
      refine Wp.skip ?_
      refine Wp.seq ?_
      refine Wp.region ?_
      refine Wo.pre 3 (by kernel_rfl) ?_
      refine Wo.nil ?_
      refine Wp.ret ?_
      refine ⟨.inr rfl, (.tup [lV, AV.int IntKind.i64 0]), (ret_many (res_tmp (by kernel_rfl) (res_tmp (by kernel_rfl) res_nil)) rfl), ?_⟩
      dsimp only
      exact ⟨lV, zs, 0, rfl, hE, q5, (by (exact takeOf_some q1 (by rw [q4]; rfl) (by omega)))⟩
  · intro ts' h' q1 q2 t2 t3
    have hE : Ext h h' := ⟨by have := q2.1; omega, fun k hk => by rw [q2.2 k (by omega) (by omega)]; exact hX2.2 k hk⟩
    exact ⟨.inr rfl, .tup [.nils, .int .i64 5], ret_many (res_tmp (by rw [t2]; rfl) (res_tmp (by rw [t3]; rfl) res_nil)) rfl, .nils, [], 5, rfl, hE, OwE.nil0, takeOf_none q1⟩

end Go.Det

/- Entries' rows are spoiled: the walk. -/
set_option linter.unusedVariables false
set_option linter.unusedSimpArgs false
set_option linter.unusedSectionVars false
namespace Go.Det
open Go.Proofs
attribute [local irreducible] Wp Wo Wd iop ev slots quiets wanted put

end Go.Det

/- Functions of the program in the form that the deterministic machine runs. -/
set_option maxRecDepth 100000
namespace Go.Det
open Go.Proofs
def l58_1 : IC := IC.seq (IC.seq (IC.region [{ dst := some 24, op := IOp.mv (IX.t 7), guard := none }, { dst := some 25, op := IOp.bin (BinOp.geq) (IX.t 24) (IX.c (AV.int (IntKind.i64) 2)), guard := none }]) (IC.cond (IX.t 25) (IC.skip) (IC.exit 0))) (IC.seq (IC.block 1 (IC.region [{ dst := some 30, op := IOp.mv (IX.t 7), guard := none }, { dst := some 31, op := IOp.iaA 11 1 (IX.t 6) (IX.t 30), guard := none }, { dst := some 32, op := IOp.ld none (IX.t 31), guard := none }, { dst := some 33, op := IOp.mv (IX.t 8), guard := none }, { dst := some 34, op := IOp.bin (BinOp.rem) (IX.t 33) (IX.c (AV.int (IntKind.u64) 10)), guard := none }, { dst := some 35, op := IOp.cvI (IntKind.u8) (IX.t 34), guard := none }, { dst := some 36, op := IOp.bin (BinOp.add) (IX.t 32) (IX.t 35), guard := none }, { dst := some 37, op := IOp.iaA 11 1 (IX.t 6) (IX.t 30), guard := none }, { dst := none, op := IOp.st 1 (IX.t 37) (IX.t 36), guard := none }])) (IC.region [{ dst := some 26, op := IOp.mv (IX.t 7), guard := none }, { dst := some 27, op := IOp.bin (BinOp.sub) (IX.t 26) (IX.c (AV.int (IntKind.i64) 1)), guard := none }, { dst := some 28, op := IOp.mv (IX.t 8), guard := none }, { dst := some 29, op := IOp.bin (BinOp.quo) (IX.t 28) (IX.c (AV.int (IntKind.u64) 10)), guard := none }, { dst := some 7, op := IOp.mv (IX.t 27), guard := none }, { dst := some 8, op := IOp.mv (IX.t 29), guard := none }]))
/-- escritoire/bundle.Name params 2 -/
def ir58 : IFunc := { ntmps := 54, results := [(4, none), (5, none)], body := IC.seq (IC.region [{ dst := some 4, op := IOp.mv (IX.c (AV.str [])), guard := none }, { dst := some 5, op := IOp.mv (IX.c (AV.int (IntKind.i64) 0)), guard := none }]) (IC.seq (IC.seq (IC.region [{ dst := some 9, op := IOp.mv (IX.t 0), guard := none }, { dst := some 10, op := IOp.bin (BinOp.geq) (IX.t 9) (IX.c (AV.int (IntKind.u64) 1000000)), guard := none }, { dst := some 11, op := IOp.mv (IX.t 10), guard := none }, { dst := some 12, op := IOp.mv (IX.t 1), guard := some (11, false) }, { dst := some 13, op := IOp.bin (BinOp.lss) (IX.t 12) (IX.c (AV.int (IntKind.i64) 1)), guard := some (11, false) }, { dst := some 14, op := IOp.pick (IX.t 11) (IX.c (AV.bool true)) (IX.t 13), guard := none }, { dst := some 15, op := IOp.mv (IX.t 14), guard := none }, { dst := some 16, op := IOp.mv (IX.t 1), guard := some (15, false) }, { dst := some 17, op := IOp.bin (BinOp.gtr) (IX.t 16) (IX.c (AV.int (IntKind.i64) 16)), guard := some (15, false) }, { dst := some 18, op := IOp.pick (IX.t 15) (IX.c (AV.bool true)) (IX.t 17), guard := none }]) (IC.cond (IX.t 18) (IC.seq (IC.region [{ dst := some 4, op := IOp.mv (IX.c (AV.str [])), guard := none }, { dst := some 5, op := IOp.mv (IX.c (AV.int (IntKind.i64) 1)), guard := none }]) (IC.ret)) (IC.skip))) (IC.seq (IC.region [{ dst := some 19, op := IOp.bsl 5 [AV.int (IntKind.u8) 0, AV.int (IntKind.u8) 0, AV.int (IntKind.u8) 0, AV.int (IntKind.u8) 0, AV.int (IntKind.u8) 0, AV.int (IntKind.u8) 0, AV.int (IntKind.u8) 0, AV.int (IntKind.u8) 0, AV.int (IntKind.u8) 0, AV.int (IntKind.u8) 0, AV.int (IntKind.u8) 0] 11 [(0, 1, IX.c (AV.int (IntKind.u8) 98)), (1, 1, IX.c (AV.int (IntKind.u8) 45)), (2, 1, IX.c (AV.int (IntKind.u8) 48)), (3, 1, IX.c (AV.int (IntKind.u8) 48)), (4, 1, IX.c (AV.int (IntKind.u8) 48)), (5, 1, IX.c (AV.int (IntKind.u8) 48)), (6, 1, IX.c (AV.int (IntKind.u8) 48)), (7, 1, IX.c (AV.int (IntKind.u8) 48)), (8, 1, IX.c (AV.int (IntKind.u8) 45)), (9, 1, IX.c (AV.int (IntKind.u8) 48)), (10, 1, IX.c (AV.int (IntKind.u8) 48))], guard := none }, { dst := some 20, op := IOp.cvBB (IX.t 19), guard := none }, { dst := some 21, op := IOp.sap 11 (IX.t 20), guard := none }, { dst := some 22, op := IOp.ld (some 11) (IX.t 21), guard := none }, { dst := some 6, op := IOp.new 134 (IX.c (AV.agg [AV.int (IntKind.u8) 0, AV.int (IntKind.u8) 0, AV.int (IntKind.u8) 0, AV.int (IntKind.u8) 0, AV.int (IntKind.u8) 0, AV.int (IntKind.u8) 0, AV.int (IntKind.u8) 0, AV.int (IntKind.u8) 0, AV.int (IntKind.u8) 0, AV.int (IntKind.u8) 0, AV.int (IntKind.u8) 0])), guard := none }, { dst := none, op := IOp.st 11 (IX.t 6) (IX.t 22), guard := none }]) (IC.seq (IC.seq (IC.region [{ dst := some 23, op := IOp.mv (IX.t 0), guard := none }, { dst := some 7, op := IOp.mv (IX.c (AV.int (IntKind.i64) 7)), guard := none }, { dst := some 8, op := IOp.mv (IX.t 23), guard := none }]) (IC.block 0 (IC.loop l58_1))) (IC.seq (IC.region [{ dst := some 38, op := IOp.iaA 11 1 (IX.t 6) (IX.c (AV.int (IntKind.i64) 9)), guard := none }, { dst := some 39, op := IOp.ld none (IX.t 38), guard := none }, { dst := some 40, op := IOp.mv (IX.t 1), guard := none }, { dst := some 41, op := IOp.bin (BinOp.quo) (IX.t 40) (IX.c (AV.int (IntKind.i64) 10)), guard := none }, { dst := some 42, op := IOp.cvI (IntKind.u8) (IX.t 41), guard := none }, { dst := some 43, op := IOp.bin (BinOp.add) (IX.t 39) (IX.t 42), guard := none }, { dst := some 44, op := IOp.iaA 11 1 (IX.t 6) (IX.c (AV.int (IntKind.i64) 9)), guard := none }, { dst := none, op := IOp.st 1 (IX.t 44) (IX.t 43), guard := none }]) (IC.seq (IC.region [{ dst := some 45, op := IOp.iaA 11 1 (IX.t 6) (IX.c (AV.int (IntKind.i64) 10)), guard := none }, { dst := some 46, op := IOp.ld none (IX.t 45), guard := none }, { dst := some 47, op := IOp.mv (IX.t 1), guard := none }, { dst := some 48, op := IOp.bin (BinOp.rem) (IX.t 47) (IX.c (AV.int (IntKind.i64) 10)), guard := none }, { dst := some 49, op := IOp.cvI (IntKind.u8) (IX.t 48), guard := none }, { dst := some 50, op := IOp.bin (BinOp.add) (IX.t 46) (IX.t 49), guard := none }, { dst := some 51, op := IOp.iaA 11 1 (IX.t 6) (IX.c (AV.int (IntKind.i64) 10)), guard := none }, { dst := none, op := IOp.st 1 (IX.t 51) (IX.t 50), guard := none }]) (IC.seq (IC.region [{ dst := some 52, op := IOp.slA 11 1 (IX.t 6) none none none, guard := none }, { dst := some 53, op := IOp.cvBS (IX.t 52), guard := none }, { dst := some 4, op := IOp.mv (IX.t 53), guard := none }, { dst := some 5, op := IOp.mv (IX.c (AV.int (IntKind.i64) 0)), guard := none }]) (IC.ret))))))), known := false } 
theorem f58 : TF 58 = some ir58 := by kernel_rfl
def l60_1 : IC := IC.seq (IC.region [{ dst := some 14, op := IOp.next (IX.t 13), guard := none }, { dst := some 15, op := IOp.ext (IX.t 14) 0, guard := none }]) (IC.seq (IC.cond (IX.t 15) (IC.skip) (IC.exit 0)) (IC.block 1 (IC.seq (IC.region [{ dst := some 16, op := IOp.ext (IX.t 14) 1, guard := none }, { dst := some 6, op := IOp.mv (IX.t 16), guard := none }]) (IC.seq (IC.region [{ dst := some 17, op := IOp.mv (IX.t 0), guard := none }, { dst := some 18, op := IOp.mv (IX.t 6), guard := none }, { dst := some 19, op := IOp.ixS (IX.t 17) (IX.t 18), guard := none }, { dst := some 7, op := IOp.mv (IX.t 19), guard := none }]) (IC.seq (IC.seq (IC.region [{ dst := some 20, op := IOp.mv (IX.t 6), guard := none }, { dst := some 21, op := IOp.ixS (IX.c (AV.str [98, 45, 48, 48, 48, 48, 48, 48, 45, 48, 48])) (IX.t 20), guard := none }, { dst := some 22, op := IOp.bin (BinOp.neq) (IX.t 21) (IX.c (AV.int (IntKind.u8) 48)), guard := none }]) (IC.cond (IX.t 22) (IC.seq (IC.seq (IC.region [{ dst := some 23, op := IOp.mv (IX.t 7), guard := none }, { dst := some 24, op := IOp.mv (IX.t 6), guard := none }, { dst := some 25, op := IOp.ixS (IX.c (AV.str [98, 45, 48, 48, 48, 48, 48, 48, 45, 48, 48])) (IX.t 24), guard := none }, { dst := some 26, op := IOp.bin (BinOp.neq) (IX.t 23) (IX.t 25), guard := none }]) (IC.cond (IX.t 26) (IC.seq (IC.region [{ dst := some 2, op := IOp.mv (IX.c (AV.int (IntKind.u64) 0)), guard := none }, { dst := some 3, op := IOp.mv (IX.c (AV.int (IntKind.i64) 0)), guard := none }, { dst := some 4, op := IOp.mv (IX.c (AV.int (IntKind.i64) 5)), guard := none }]) (IC.ret)) (IC.skip))) (IC.exit 1)) (IC.skip))) (IC.seq (IC.seq (IC.region [{ dst := some 27, op := IOp.mv (IX.t 7), guard := none }, { dst := some 28, op := IOp.bin (BinOp.lss) (IX.t 27) (IX.c (AV.int (IntKind.u8) 48)), guard := none }, { dst := some 29, op := IOp.mv (IX.t 28), guard := none }, { dst := some 30, op := IOp.mv (IX.t 7), guard := some (29, false) }, { dst := some 31, op := IOp.bin (BinOp.gtr) (IX.t 30) (IX.c (AV.int (IntKind.u8) 57)), guard := some (29, false) }, { dst := some 32, op := IOp.pick (IX.t 29) (IX.c (AV.bool true)) (IX.t 31), guard := none }]) (IC.cond (IX.t 32) (IC.seq (IC.region [{ dst := some 2, op := IOp.mv (IX.c (AV.int (IntKind.u64) 0)), guard := none }, { dst := some 3, op := IOp.mv (IX.c (AV.int (IntKind.i64) 0)), guard := none }, { dst := some 4, op := IOp.mv (IX.c (AV.int (IntKind.i64) 5)), guard := none }]) (IC.ret)) (IC.skip))) (IC.region [{ dst := some 33, op := IOp.mv (IX.t 5), guard := none }, { dst := some 34, op := IOp.bin (BinOp.mul) (IX.c (AV.int (IntKind.u64) 10)) (IX.t 33), guard := none }, { dst := some 35, op := IOp.mv (IX.t 7), guard := none }, { dst := some 36, op := IOp.bin (BinOp.sub) (IX.t 35) (IX.c (AV.int (IntKind.u8) 48)), guard := none }, { dst := some 37, op := IOp.cvI (IntKind.u64) (IX.t 36), guard := none }, { dst := some 38, op := IOp.bin (BinOp.add) (IX.t 34) (IX.t 37), guard := none }, { dst := some 5, op := IOp.mv (IX.t 38), guard := none }])))))))
/-- escritoire/bundle.Parse params 1 -/
def ir60 : IFunc := { ntmps := 52, results := [(2, none), (3, none), (4, none)], body := IC.seq (IC.region [{ dst := some 2, op := IOp.mv (IX.c (AV.int (IntKind.u64) 0)), guard := none }, { dst := some 3, op := IOp.mv (IX.c (AV.int (IntKind.i64) 0)), guard := none }, { dst := some 4, op := IOp.mv (IX.c (AV.int (IntKind.i64) 0)), guard := none }]) (IC.seq (IC.seq (IC.region [{ dst := some 10, op := IOp.mv (IX.t 0), guard := none }, { dst := some 11, op := IOp.len true (IX.t 10), guard := none }, { dst := some 12, op := IOp.bin (BinOp.neq) (IX.t 11) (IX.c (AV.int (IntKind.i64) 11)), guard := none }]) (IC.cond (IX.t 12) (IC.seq (IC.region [{ dst := some 2, op := IOp.mv (IX.c (AV.int (IntKind.u64) 0)), guard := none }, { dst := some 3, op := IOp.mv (IX.c (AV.int (IntKind.i64) 0)), guard := none }, { dst := some 4, op := IOp.mv (IX.c (AV.int (IntKind.i64) 5)), guard := none }]) (IC.ret)) (IC.skip))) (IC.seq (IC.region [{ dst := some 5, op := IOp.mv (IX.c (AV.int (IntKind.u64) 0)), guard := none }]) (IC.seq (IC.seq (IC.region [{ dst := some 13, op := IOp.rng (IX.c (AV.str [98, 45, 48, 48, 48, 48, 48, 48, 45, 48, 48])), guard := none }]) (IC.block 0 (IC.loop l60_1))) (IC.seq (IC.region [{ dst := some 39, op := IOp.mv (IX.t 5), guard := none }, { dst := some 40, op := IOp.bin (BinOp.quo) (IX.t 39) (IX.c (AV.int (IntKind.u64) 100)), guard := none }, { dst := some 41, op := IOp.mv (IX.t 5), guard := none }, { dst := some 42, op := IOp.bin (BinOp.rem) (IX.t 41) (IX.c (AV.int (IntKind.u64) 100)), guard := none }, { dst := some 43, op := IOp.cvI (IntKind.i64) (IX.t 42), guard := none }, { dst := some 8, op := IOp.mv (IX.t 40), guard := none }, { dst := some 9, op := IOp.mv (IX.t 43), guard := none }]) (IC.seq (IC.seq (IC.region [{ dst := some 44, op := IOp.mv (IX.t 9), guard := none }, { dst := some 45, op := IOp.bin (BinOp.lss) (IX.t 44) (IX.c (AV.int (IntKind.i64) 1)), guard := none }, { dst := some 46, op := IOp.mv (IX.t 45), guard := none }, { dst := some 47, op := IOp.mv (IX.t 9), guard := some (46, false) }, { dst := some 48, op := IOp.bin (BinOp.gtr) (IX.t 47) (IX.c (AV.int (IntKind.i64) 16)), guard := some (46, false) }, { dst := some 49, op := IOp.pick (IX.t 46) (IX.c (AV.bool true)) (IX.t 48), guard := none }]) (IC.cond (IX.t 49) (IC.seq (IC.region [{ dst := some 2, op := IOp.mv (IX.c (AV.int (IntKind.u64) 0)), guard := none }, { dst := some 3, op := IOp.mv (IX.c (AV.int (IntKind.i64) 0)), guard := none }, { dst := some 4, op := IOp.mv (IX.c (AV.int (IntKind.i64) 5)), guard := none }]) (IC.ret)) (IC.skip))) (IC.seq (IC.region [{ dst := some 50, op := IOp.mv (IX.t 8), guard := none }, { dst := some 51, op := IOp.mv (IX.t 9), guard := none }, { dst := some 2, op := IOp.mv (IX.t 50), guard := none }, { dst := some 3, op := IOp.mv (IX.t 51), guard := none }, { dst := some 4, op := IOp.mv (IX.c (AV.int (IntKind.i64) 0)), guard := none }]) (IC.ret))))))), known := false } 
theorem f60 : TF 60 = some ir60 := by kernel_rfl
end Go.Det

/- Names of bundles: the loops. -/
set_option linter.unusedVariables false
set_option linter.unusedSimpArgs false
set_option linter.unusedSectionVars false
namespace Go.Det
open Go.Proofs
attribute [local irreducible] Wp Wo Wd iop ev slots quiets wanted put

/-- The last digits of a number. -/
def digs (n : Nat) : Nat → List UInt8
  | 0 => []
  | i + 1 => UInt8.ofNat (48 + n / 10 ^ i % 10) :: digs n i
theorem digs_len (n : Nat) : ∀ i, (digs n i).length = i
  | 0 => rfl
  | i + 1 => by simp [digs, digs_len n i]

theorem digit_nat (m : Nat) : ((UInt8.ofNat (48 + m % 10)).toNat : Int) = 48 + ((m % 10 : Nat) : Int) := by
  rw [UInt8.toNat_ofNat']
  omega
theorem div_step (n i : Nat) : n / 10 ^ i / 10 = n / 10 ^ (i + 1) := by rw [Nat.div_div_eq_div_mul, ← Nat.pow_succ]
theorem tmod10 (m : Nat) : ((m : Int)).tmod 10 = ((m % 10 : Nat) : Int) := by rw [Int.natCast_emod]; exact Int.tmod_eq_emod_of_nonneg (by omega)
theorem tdiv10 (m : Nat) : ((m : Int)).tdiv 10 = ((m / 10 : Nat) : Int) := by rw [Int.natCast_ediv]; exact Int.tdiv_eq_ediv_of_nonneg (by omega)

/-- A bundle's name while its number is laid down. -/
def arr (n j : Nat) : List UInt8 := [98, 45] ++ (List.replicate (6 - j) 48 ++ (digs n j ++ [45, 48, 48]))
theorem arr_len (n j : Nat) (hj : j ≤ 6) : (arr n j).length = 11 := by simp [arr, digs_len]; omega
theorem arr_get (n j : Nat) (hj : j < 6) : (arr n j)[7 - j]? = some 48 := by
  unfold arr
  have e : 7 - j - ([98, 45] : List UInt8).length = 5 - j := by simp; omega
  rw [List.getElem?_append_right (by simp; omega), e, List.getElem?_append_left (by simp; omega), List.getElem?_replicate, if_pos (by omega)]
theorem arr_set (n j : Nat) (hj : j < 6) : (arr n j).set (7 - j) (UInt8.ofNat (48 + n / 10 ^ j % 10)) = arr n (j + 1) := by
  unfold arr
  rw [List.set_append_right _ _ (by simp; omega)]
  congr 1
  have e1 : 6 - j = (6 - (j + 1)) + 1 := by omega
  have e2 : 7 - j - ([98, 45] : List UInt8).length = 6 - (j + 1) := by simp; omega
  rw [e2, e1, List.replicate_succ', List.append_assoc, List.set_append_right _ _ (by simp)]
  simp [digs]

theorem name_loop {n blk : Nat} {w : AV} (hn : n < 2 ^ 64) :
    ∀ (k j : Nat), j + k = 6 → ∀ (h : H) (ts : List AV), ts.length = 54 → getL ts 1 = some w → getL ts 6 = some (.ptr ⟨blk, 0, 0⟩) → getL ts 7 = some (.int .i64 (7 - (j : Int))) → getL ts 8 = some (.int .u64 (n / 10 ^ j : Nat)) → h.get blk = some (.cells 0 134 (bytesAV (arr n j)) 0 false) →
      ∀ (Q : Ex → St → Prop), (∀ ts' h', ts'.length = 54 → getL ts' 1 = some w → getL ts' 6 = some (.ptr ⟨blk, 0, 0⟩) → h'.n = h.n → (∀ b, b ≠ blk → h'.get b = h.get b) → h'.get blk = some (.cells 0 134 (bytesAV (arr n 6)) 0 false) → Q (.exit 0) (ts', h')) → Wp TF (.loop l58_1) (ts, h) Q := by
  intro k
  induction k with
  | zero =>
    intro j hj h ts t0 t1 t6 t7 t8 hg Q hQ
    obtain rfl : j = 6 := by omega
    refine Wp.loop ?_
    have t7 : getL ts 7 = some (.int .i64 1) := t7
    rw [laid_eq t0 [(1, w), (6, .ptr ⟨blk, 0, 0⟩), (7, .int .i64 1), (8, .int .u64 (n / 10 ^ 6 : Nat))] (by simp [t1, t6, t7, t8])]
    unfold l58_1
    refine Wp.seq ?_
    refine Wp.seq ?_
    refine Wp.region ?_
    refine Wo.pre 8 (by kernel_rfl) ?_
    refine Wo.nil ?_
    refine Wp.cond false (by kernel_rfl) ?_
    exact Wp.exit (hQ _ _ (by kernel_rfl) (by kernel_rfl) (by kernel_rfl) rfl (fun _ _ => rfl) hg)
  | succ k ih =>
    intro j hj h ts t0 t1 t6 t7 t8 hg Q hQ
    refine Wp.loop ?_
    have hlt : j < 6 := by omega
    obtain ⟨m, hm'⟩ : ∃ m, m = n / 10 ^ j := ⟨_, rfl⟩
    have hm64 : m < 2 ^ 64 := by rw [hm']; exact Nat.lt_of_le_of_lt (Nat.div_le_self _ _) hn
    have hset := arr_set n j hlt
    rw [← hm'] at t8 hset
    obtain ⟨p, hp⟩ : ∃ p : Nat, p = 7 - j := ⟨_, rfl⟩
    have t7 : getL ts 7 = some (.int .i64 (p : Int)) := by rw [t7]; congr 2; omega
    have hp2 : 2 ≤ p := by omega
    have hp11 : p < 11 := by omega
    have hget := arr_get n j hlt
    rw [← hp] at hget hset
    have hal := arr_len n j (by omega)
    have w1 : IntKind.i64.wrap ((p : Int) - 1) = (p : Int) - 1 := i64_fit _ (by omega)
    have w2 : IntKind.u8.wrap (((m : Nat) : Int).tmod 10) = ((m % 10 : Nat) : Int) := by rw [tmod10, u8_fit _ (by omega)]
    have w3 : IntKind.u8.wrap (48 + ((m % 10 : Nat) : Int)) = ((UInt8.ofNat (48 + m % 10)).toNat : Int) := by rw [digit_nat, u8_fit _ (by omega)]
    have w4 : IntKind.u64.wrap (((m : Nat) : Int).tdiv 10) = ((m / 10 : Nat) : Int) := by rw [tdiv10, u64_fit _ (by omega)]
    obtain ⟨c, hc⟩ : ∃ c, c = UInt8.ofNat (48 + m % 10) := ⟨_, rfl⟩
    rw [← hc] at w3 hset
    have w23 : IntKind.u8.wrap (48 + IntKind.u8.wrap (((m : Nat) : Int).tmod 10)) = (c.toNat : Int) := by rw [w2, w3]
    clear hc w2 w3
    have hn1 : n / 10 ^ (j + 1) = m / 10 := by rw [hm', div_step]
    have hld : h.ldg ⟨blk, 0, p⟩ none = some (.int .u8 48) := by simp [H.ldg, H.ld, H.row, hg, get_byte, hget]
    have hst := st_byte hg (k := p) (by omega) c
    rw [hset] at hst
    have c2 : (2 : Int) ≤ (p : Int) := by omega
    have eia : ∀ {y z : IX} {ρ : IX → AV}, ρ y = .ptr ⟨blk, 0, 0⟩ → ρ z = .int .i64 p → iop (.iaA 11 1 y z) ρ h = some (.val (.ptr ⟨blk, 0, p⟩) h) := by
      intro y z ρ hy hz
      have hq : (p : Int) < 11 := by omega
      simp [iop, hy, hz, asI, hq]
    rw [laid_eq t0 [(1, w), (6, .ptr ⟨blk, 0, 0⟩), (7, .int .i64 p), (8, .int .u64 m)] (by simp [t1, t6, t7, t8])]
    unfold l58_1
    refine Wp.seq ?_
    refine Wp.seq ?_
    refine Wp.region ?_
    refine Wo.pre 8 (by kernel_rfl) ?_
    refine Wo.nil ?_
    refine Wp.cond (decide ((p : Int) ≥ 2)) (by kernel_rfl) ?_
    rw [if_pos (by simp; omega)]
    refine Wp.skip ?_
    refine Wp.seq ?_
    refine Wp.block ?_
    refine Wp.region ?_
    refine Wo.pre 1 (by kernel_rfl) ?_
    refine Wo.val _ h (by kernel_rfl) (eia (by kernel_rfl) (by kernel_rfl)) ?_
    refine Wo.val (.int .u8 48) h (by kernel_rfl) (iop_ld (a := ⟨blk, 0, p⟩) (by kernel_rfl) hld) ?_
    refine Wo.pre 3 (by kernel_rfl) ?_
    refine Wo.pre 1 (by kernel_rfl) ?_
    refine Wo.val _ h (by kernel_rfl) (eia (by kernel_rfl) (by kernel_rfl)) ?_
    refine Wo.val .undef (h.set blk (.cells 0 134 (bytesAV (arr n (j + 1))) 0 false)) (by kernel_rfl) (iop_st1 (a := ⟨blk, 0, p⟩) (v := .int .u8 c.toNat) (by kernel_rfl) (by rw [← w23]; kernel_rfl) rfl hst) ?_
    refine Wo.nil ?_
    refine Wp.region ?_
    refine Wo.pre 8 (by kernel_rfl) ?_
    refine Wo.nil ?_
    refine ih (j + 1) (by omega) _ _ (by kernel_rfl) (by kernel_rfl) (by kernel_rfl) (by rw [show (7 : Int) - ((j + 1 : Nat) : Int) = (p : Int) - 1 by omega, ← w1]; kernel_rfl) (by rw [hn1, ← w4]; kernel_rfl) (by rw [h.get_set]) Q ?_
    intro ts' h' g0 g1 g1' g2 g3 g4
    exact hQ ts' h' g0 g1 g1' (by rw [g2]; rfl) (fun b hb => by rw [g3 b hb, h.get_set_ne _ b _ hb]) g4
end Go.Det

/- Names of bundles, laid down. -/
set_option linter.unusedVariables false
set_option linter.unusedSimpArgs false
set_option linter.unusedSectionVars false
namespace Go.Det
open Go.Proofs
attribute [local irreducible] Wp Wo Wd iop ev slots quiets wanted put

def nameS (n w : Nat) : List UInt8 := [98, 45] ++ digs n 6 ++ [45] ++ digs w 2
def nameR (number : Nat) (width : Int) : AV := if (number : Int) < 1000000 ∧ 1 ≤ width ∧ width ≤ 16 then .tup [.str (nameS number width.toNat), .int .i64 0] else .tup [.str [], .int .i64 1]
theorem nameR_bad {n : Nat} {w : Int} (h : ¬ ((n : Int) < 1000000 ∧ 1 ≤ w ∧ w ≤ 16)) : nameR n w = .tup [.str [], .int .i64 1] := if_neg h
theorem nameR_ok {n w : Nat} (h : (n : Int) < 1000000 ∧ 1 ≤ (w : Int) ∧ (w : Int) ≤ 16) : nameR n w = .tup [.str (nameS n w), .int .i64 0] := by
  unfold nameR
  rw [if_pos h, Int.toNat_natCast]

theorem arr_end (n w : Nat) (hw : w ≤ 16) : ((arr n 6).set 9 (UInt8.ofNat (48 + w / 10))).set 10 (UInt8.ofNat (48 + w % 10)) = nameS n w := by
  have h1 : w / 10 % 10 = w / 10 := by omega
  have hd := digs_len n 6
  obtain ⟨a0, a1, a2, a3, a4, a5, e⟩ : ∃ a0 a1 a2 a3 a4 a5, digs n 6 = [a0, a1, a2, a3, a4, a5] := ⟨_, _, _, _, _, _, rfl⟩
  unfold arr nameS
  rw [e]
  simp [digs, h1]

theorem name_run {h : H} {n : Nat} (hn : n < 2 ^ 64) (width : Int) : ∃ r h', Runs TF 58 [.int .u64 n, .int .i64 width] h r h' ∧ r = nameR n width ∧ Ext h h' := by
  refine Runs.ofP f58 rfl ?_
  by_cases h1 : (n : Int) ≥ 1000000
  · have e : nameR n width = .tup [.str [], .int .i64 1] := nameR_bad (by omega)
    refine Wp.seq ?_
    refine Wp.region ?_
    refine Wo.pre 1 (by kernel_rfl) ?_
    refine Wo.pre 1 (by kernel_rfl) ?_
    refine Wo.nil ?_
    refine Wp.seq ?_
    refine Wp.seq ?_
    refine Wp.region ?_
    refine Wo.pre 1 (by kernel_rfl) ?_
    refine Wo.val (.bool true) h (by kernel_rfl) (iop_cmp (k := .u64) (a := n) (b := 1000000) true (by kernel_rfl) (by kernel_rfl) (by simp) (by simp [binInt]; omega)) ?_
    refine Wo.pre 1 (by kernel_rfl) ?_
    refine Wo.pre 1 (by kernel_rfl) ?_
    refine Wo.pre 1 (by kernel_rfl) ?_
    refine Wo.pre 1 (by kernel_rfl) ?_
    refine Wo.pre 1 (by kernel_rfl) ?_
    refine Wo.pre 1 (by kernel_rfl) ?_
    refine Wo.pre 1 (by kernel_rfl) ?_
    refine Wo.pre 1 (by kernel_rfl) ?_
    refine Wo.nil ?_
    refine Wp.cond true (by kernel_rfl) ?_
    refine Wp.seq ?_
    refine Wp.region ?_
    refine Wo.pre 1 (by kernel_rfl) ?_
    refine Wo.pre 1 (by kernel_rfl) ?_
    refine Wo.nil ?_
    exact Wp.ret ⟨.inr rfl, .tup [.str [], .int .i64 1], (by kernel_rfl), e.symm, Ext.refl h⟩
  · by_cases h2 : width < 1
    · have e : nameR n width = .tup [.str [], .int .i64 1] := nameR_bad (by omega)
      refine Wp.seq ?_
      refine Wp.region ?_
      refine Wo.pre 1 (by kernel_rfl) ?_
      refine Wo.pre 1 (by kernel_rfl) ?_
      refine Wo.nil ?_
      refine Wp.seq ?_
      refine Wp.seq ?_
      refine Wp.region ?_
      refine Wo.pre 1 (by kernel_rfl) ?_
      refine Wo.val (.bool false) h (by kernel_rfl) (iop_cmp (k := .u64) (a := n) (b := 1000000) false (by kernel_rfl) (by kernel_rfl) (by simp) (by simp [binInt]; omega)) ?_
      refine Wo.pre 1 (by kernel_rfl) ?_
      refine Wo.pre 1 (by kernel_rfl) ?_
      refine Wo.val (.bool true) h (by kernel_rfl) (iop_cmp (k := .i64) (a := width) (b := 1) true (by kernel_rfl) (by kernel_rfl) (by simp) (by simp [binInt]; omega)) ?_
      refine Wo.pre 1 (by kernel_rfl) ?_
      refine Wo.pre 1 (by kernel_rfl) ?_
      refine Wo.pre 1 (by kernel_rfl) ?_
      refine Wo.pre 1 (by kernel_rfl) ?_
      refine Wo.pre 1 (by kernel_rfl) ?_
      refine Wo.nil ?_
      refine Wp.cond true (by kernel_rfl) ?_
      refine Wp.seq ?_
      refine Wp.region ?_
      refine Wo.pre 1 (by kernel_rfl) ?_
      refine Wo.pre 1 (by kernel_rfl) ?_
      refine Wo.nil ?_
      exact Wp.ret ⟨.inr rfl, .tup [.str [], .int .i64 1], (by kernel_rfl), e.symm, Ext.refl h⟩
    · by_cases h3 : width > 16
      · have e : nameR n width = .tup [.str [], .int .i64 1] := nameR_bad (by omega)
        refine Wp.seq ?_
        refine Wp.region ?_
        refine Wo.pre 1 (by kernel_rfl) ?_
        refine Wo.pre 1 (by kernel_rfl) ?_
        refine Wo.nil ?_
        refine Wp.seq ?_
        refine Wp.seq ?_
        refine Wp.region ?_
        refine Wo.pre 1 (by kernel_rfl) ?_
        refine Wo.val (.bool false) h (by kernel_rfl) (iop_cmp (k := .u64) (a := n) (b := 1000000) false (by kernel_rfl) (by kernel_rfl) (by simp) (by simp [binInt]; omega)) ?_
        refine Wo.pre 1 (by kernel_rfl) ?_
        refine Wo.pre 1 (by kernel_rfl) ?_
        refine Wo.val (.bool false) h (by kernel_rfl) (iop_cmp (op := .lss) (k := .i64) (a := width) (b := 1) false (by kernel_rfl) (by kernel_rfl) (by simp) (by simp [binInt]; omega)) ?_
        refine Wo.pre 1 (by kernel_rfl) ?_
        refine Wo.pre 1 (by kernel_rfl) ?_
        refine Wo.pre 1 (by kernel_rfl) ?_
        refine Wo.val (.bool true) h (by kernel_rfl) (iop_cmp (op := .gtr) (k := .i64) (a := width) (b := 16) true (by kernel_rfl) (by kernel_rfl) (by simp) (by simp [binInt]; omega)) ?_
        refine Wo.pre 1 (by kernel_rfl) ?_
        refine Wo.nil ?_
        refine Wp.cond true (by kernel_rfl) ?_
        refine Wp.seq ?_
        refine Wp.region ?_
        refine Wo.pre 1 (by kernel_rfl) ?_
        refine Wo.pre 1 (by kernel_rfl) ?_
        refine Wo.nil ?_
        exact Wp.ret ⟨.inr rfl, .tup [.str [], .int .i64 1], (by kernel_rfl), e.symm, Ext.refl h⟩
      · obtain ⟨w, rfl⟩ : ∃ w : Nat, width = w := ⟨width.toNat, by omega⟩
        have e : nameR n w = .tup [.str (nameS n w), .int .i64 0] := nameR_ok (by omega)
        obtain ⟨H1, hH1⟩ : ∃ H1, H1 = h.new (.cells 0 5 (bytesAV (arr n 0)) 0 false) := ⟨_, rfl⟩
        have X1 : Ext h H1 := by rw [hH1]; exact Ext.new _ _
        have g1 : H1.get h.n = some (.cells 0 5 (bytesAV (arr n 0)) 0 false) := by rw [hH1]; exact h.get_new _
        have e1 : ∀ ts, iop (.bsl 5 [.int .u8 0, .int .u8 0, .int .u8 0, .int .u8 0, .int .u8 0, .int .u8 0, .int .u8 0, .int .u8 0, .int .u8 0, .int .u8 0, .int .u8 0] 11 [(0, 1, .c (.int .u8 98)), (1, 1, .c (.int .u8 45)), (2, 1, .c (.int .u8 48)), (3, 1, .c (.int .u8 48)), (4, 1, .c (.int .u8 48)), (5, 1, .c (.int .u8 48)), (6, 1, .c (.int .u8 48)), (7, 1, .c (.int .u8 48)), (8, 1, .c (.int .u8 45)), (9, 1, .c (.int .u8 48)), (10, 1, .c (.int .u8 48))]) (ev ts) h = some (.val (.sl ⟨h.n, 0, 0⟩ 11 (.ex 11)) H1) := fun ts => by rw [hH1]; kernel_rfl
        have e2 : ∀ {x : IX} {ρ : IX → AV}, ρ x = .sl ⟨h.n, 0, 0⟩ 11 (.ex 11) → iop (.cvBB x) ρ H1 = some (.val (.sl ⟨h.n, 0, 0⟩ 11 (.ex 11)) H1) := fun hx => by simp [iop, hx, g1, capPos]
        have L1 : H1.ldg ⟨h.n, 0, 0⟩ (some 11) = some (.agg (bytesAV (arr n 0))) := by
          have : H1.ldn ⟨h.n, 0, 0⟩ 11 = some (bytesAV (arr n 0)) := by
            unfold H.ldn H.row
            simp only [g1, BEq.rfl, Bool.not_false, Bool.true_or, Bool.and_self, if_true]
            exact cut_all _
          simp [H.ldg, this]
        obtain ⟨H2, hH2⟩ : ∃ H2, H2 = H1.new (.cells 0 134 (List.replicate 11 (.int .u8 0)) 0 false) := ⟨_, rfl⟩
        have g2 : H2.get H1.n = some (.cells 0 134 (List.replicate 11 (.int .u8 0)) 0 false) := by rw [hH2]; exact H1.get_new _
        have enew : ∀ ts, iop (.new 134 (.c (.agg [.int .u8 0, .int .u8 0, .int .u8 0, .int .u8 0, .int .u8 0, .int .u8 0, .int .u8 0, .int .u8 0, .int .u8 0, .int .u8 0, .int .u8 0]))) (ev ts) H1 = some (.val (.ptr ⟨H1.n, 0, 0⟩) H2) := fun ts => by rw [hH2]; exact iop_new (by kernel_rfl) rfl
        obtain ⟨H3, hH3⟩ : ∃ H3, H3 = H2.set H1.n (.cells 0 134 (bytesAV (arr n 0)) 0 false) := ⟨_, rfl⟩
        have st3 : H2.st ⟨H1.n, 0, 0⟩ (bytesAV (arr n 0)) = some H3 := by
          have hl : (bytesAV (arr n 0)).length = 11 := by rw [bytes_len, arr_len _ _ (by omega)]
          have ho := bytes_one (arr n 0)
          unfold H.st
          simp only [g2]
          rw [if_pos (by simp [-List.all_eq_true, hl, ho]), hH3]
          rfl
        have g3 : H3.get H1.n = some (.cells 0 134 (bytesAV (arr n 0)) 0 false) := by rw [hH3, H2.get_set]
        have n3 : H3.n = H1.n + 1 := by rw [hH3, hH2]; rfl
        have X3 : Ext h H3 := ⟨by have := X1.1; omega, fun b hb => by rw [hH3, H2.get_set_ne _ b _ (by have := X1.1; omega), hH2, H1.get_new_ne b _ (by have := X1.1; omega)]; exact X1.2 b hb⟩
        refine Wp.seq ?_
        refine Wp.region ?_
        refine Wo.pre 1 (by kernel_rfl) ?_
        refine Wo.pre 1 (by kernel_rfl) ?_
        refine Wo.nil ?_
        refine Wp.seq ?_
        refine Wp.seq ?_
        refine Wp.region ?_
        refine Wo.pre 1 (by kernel_rfl) ?_
        refine Wo.val (.bool false) h (by kernel_rfl) (iop_cmp (k := .u64) (a := n) (b := 1000000) false (by kernel_rfl) (by kernel_rfl) (by simp) (by simp [binInt]; omega)) ?_
        refine Wo.pre 1 (by kernel_rfl) ?_
        refine Wo.pre 1 (by kernel_rfl) ?_
        refine Wo.val (.bool false) h (by kernel_rfl) (iop_cmp (op := .lss) (k := .i64) (a := w) (b := 1) false (by kernel_rfl) (by kernel_rfl) (by simp) (by simp [binInt]; omega)) ?_
        refine Wo.pre 1 (by kernel_rfl) ?_
        refine Wo.pre 1 (by kernel_rfl) ?_
        refine Wo.pre 1 (by kernel_rfl) ?_
        refine Wo.val (.bool false) h (by kernel_rfl) (iop_cmp (op := .gtr) (k := .i64) (a := w) (b := 16) false (by kernel_rfl) (by kernel_rfl) (by simp) (by simp [binInt]; omega)) ?_
        refine Wo.pre 1 (by kernel_rfl) ?_
        refine Wo.nil ?_
        refine Wp.cond false (by kernel_rfl) ?_
        refine Wp.skip ?_
        refine Wp.seq ?_
        refine Wp.region ?_
        refine Wo.val _ _ (by kernel_rfl) (e1 _) ?_
        refine Wo.val _ H1 (by kernel_rfl) (e2 (by kernel_rfl)) ?_
        refine Wo.pre 1 (by kernel_rfl) ?_
        refine Wo.val (.agg (bytesAV (arr n 0))) H1 (by kernel_rfl) (iop_ld (a := ⟨h.n, 0, 0⟩) (by kernel_rfl) L1) ?_
        refine Wo.val _ _ (by kernel_rfl) (enew _) ?_
        refine Wo.val .undef H3 (by kernel_rfl) (iop_stA (a := ⟨H1.n, 0, 0⟩) (cs := bytesAV (arr n 0)) (by kernel_rfl) (by kernel_rfl) (by rw [bytes_len, arr_len _ _ (by omega)]) st3) ?_
        refine Wo.nil ?_
        refine Wp.seq ?_
        refine Wp.seq ?_
        refine Wp.region ?_
        refine Wo.pre 1 (by kernel_rfl) ?_
        refine Wo.pre 1 (by kernel_rfl) ?_
        refine Wo.pre 1 (by kernel_rfl) ?_
        refine Wo.nil ?_
        refine Wp.block ?_
        refine name_loop (w := .int .i64 w) hn 6 0 (by omega) H3 _ (by kernel_rfl) (by kernel_rfl) (by kernel_rfl) (by kernel_rfl) (by rw [show n / 10 ^ 0 = n by simp]; kernel_rfl) g3 _ ?_
        intro ts' K1 d0 d1 d6 dn dk dg
        rw [laid_eq d0 [(1, .int .i64 w), (6, .ptr ⟨H1.n, 0, 0⟩)] (by simp [d1, d6])]
        obtain ⟨c9, hc9⟩ : ∃ c, c = UInt8.ofNat (48 + w / 10) := ⟨_, rfl⟩
        obtain ⟨c10, hc10⟩ : ∃ c, c = UInt8.ofNat (48 + w % 10) := ⟨_, rfl⟩
        have f9 : IntKind.u8.wrap (48 + IntKind.u8.wrap (IntKind.i64.wrap ((w : Int).tdiv 10))) = (c9.toNat : Int) := by
          rw [tdiv10, i64_fit _ (by omega), u8_fit ((w / 10 : Nat) : Int) (by omega), u8_fit _ (by omega), hc9, UInt8.toNat_ofNat']
          omega
        have f10 : IntKind.u8.wrap (48 + IntKind.u8.wrap ((w : Int).tmod 10)) = (c10.toNat : Int) := by
          rw [tmod10, u8_fit ((w % 10 : Nat) : Int) (by omega), u8_fit _ (by omega), hc10, UInt8.toNat_ofNat']
          omega
        have hend := arr_end n w (by omega)
        rw [← hc9, ← hc10] at hend
        have hal := arr_len n 6 (by omega)
        have a9 : (arr n 6)[9]? = some 48 := rfl
        have a10 : ((arr n 6).set 9 c9)[10]? = some 48 := rfl
        have M9 : K1.ldg ⟨H1.n, 0, 9⟩ none = some (.int .u8 48) := by simp [H.ldg, H.ld, H.row, dg, get_byte, a9]
        have S9 := st_byte dg (k := 9) (by omega) c9
        obtain ⟨K2, hK2⟩ : ∃ K2, K2 = K1.set H1.n (.cells 0 134 (bytesAV ((arr n 6).set 9 c9)) 0 false) := ⟨_, rfl⟩
        rw [← hK2] at S9
        have dg2 : K2.get H1.n = some (.cells 0 134 (bytesAV ((arr n 6).set 9 c9)) 0 false) := by rw [hK2, K1.get_set]
        have M10 : K2.ldg ⟨H1.n, 0, 10⟩ none = some (.int .u8 48) := by simp [H.ldg, H.ld, H.row, dg2, get_byte, a10]
        have S10 := st_byte dg2 (k := 10) (by simp; omega) c10
        rw [hend] at S10
        obtain ⟨K3, hK3⟩ : ∃ K3, K3 = K2.set H1.n (.cells 0 134 (bytesAV (nameS n w)) 0 false) := ⟨_, rfl⟩
        rw [← hK3] at S10
        have dg3 : K3.get H1.n = some (.cells 0 134 (bytesAV (nameS n w)) 0 false) := by rw [hK3, K2.get_set]
        have hsl : (nameS n w).length = 11 := by rw [← hend]; simp [hal]
        have k3n : K3.n = K1.n := by rw [hK3, hK2]; rfl
        have hbs : Bs K3 (.sl ⟨H1.n, 0, 0⟩ 11 (.ex 11)) (nameS n w) := by
          refine .inr ⟨⟨H1.n, 0, 0⟩, .ex 11, by rw [hsl], by show H1.n < K3.n; omega, ?_⟩
          unfold H.ldn H.row
          simp only [dg3, BEq.rfl, Bool.not_false, Bool.true_or, Bool.and_self, if_true]
          rw [← bytes_len]
          exact cut_all _
        refine Wp.seq ?_
        refine Wp.region ?_
        refine Wo.pre 1 (by kernel_rfl) ?_
        refine Wo.val (.int .u8 48) K1 (by kernel_rfl) (iop_ld (a := ⟨H1.n, 0, 9⟩) (by kernel_rfl) M9) ?_
        refine Wo.pre 3 (by kernel_rfl) ?_
        refine Wo.pre 1 (by kernel_rfl) ?_
        refine Wo.pre 1 (by kernel_rfl) ?_
        refine Wo.val .undef K2 (by kernel_rfl) (iop_st1 (a := ⟨H1.n, 0, 9⟩) (v := .int .u8 c9.toNat) (by kernel_rfl) (by rw [← f9]; kernel_rfl) rfl S9) ?_
        refine Wo.nil ?_
        refine Wp.seq ?_
        refine Wp.region ?_
        refine Wo.pre 1 (by kernel_rfl) ?_
        refine Wo.val (.int .u8 48) K2 (by kernel_rfl) (iop_ld (a := ⟨H1.n, 0, 10⟩) (by kernel_rfl) M10) ?_
        refine Wo.pre 3 (by kernel_rfl) ?_
        refine Wo.pre 1 (by kernel_rfl) ?_
        refine Wo.pre 1 (by kernel_rfl) ?_
        refine Wo.val .undef K3 (by kernel_rfl) (iop_st1 (a := ⟨H1.n, 0, 10⟩) (v := .int .u8 c10.toNat) (by kernel_rfl) (by rw [← f10]; kernel_rfl) rfl S10) ?_
        refine Wo.nil ?_
        refine Wp.seq ?_
        refine Wp.region ?_
        refine Wo.pre 1 (by kernel_rfl) ?_
        refine Wo.val (.str (nameS n w)) K3 (by kernel_rfl) (iop_cvBS (v := .sl ⟨H1.n, 0, 0⟩ 11 (.ex 11)) (by kernel_rfl) hbs) ?_
        refine Wo.pre 8 (by kernel_rfl) ?_
        refine Wo.nil ?_
        refine Wp.ret ⟨.inr rfl, .tup [.str (nameS n w), .int .i64 0], (by kernel_rfl), e.symm, (by have := X3.1; show h.n ≤ K3.n; omega), fun b hb => ?_⟩
        have := X1.1
        show K3.get b = h.get b
        rw [hK3, K2.get_set_ne _ b _ (by omega), hK2, K1.get_set_ne _ b _ (by omega), dk b (by omega), X3.2 b hb]
end Go.Det

