/- Reply: Take as contracts; a body spoiled: the walks. -/
import Derived.Test.YtcobmomjdbmacaaDoorre14
set_option linter.unusedVariables false
set_option linter.unusedSimpArgs false
set_option linter.unusedSectionVars false
namespace Go.Det
open Go.Proofs
attribute [local irreducible] Wp Wo Wd iop ev slots quiets wanted put

theorem takeP_more {h : H} {x : AV} {l : List UInt8} (hx : Bs h x l) (cx : Cok x) (hl : l.length ≤ 140737488351232) (hR : Re.takeP l = .more) : ∃ r h', Runs TF 8 [x] h r h' ∧ r = .tup [.agg [.int .i64 0, .nils, .bool false], .int .i64 0, .int .i64 44] ∧ Ext h h' := by
  obtain ⟨r, h', a, b, c⟩ := take_run hx cx hl
  rw [hR] at c
  exact ⟨r, h', a, c, b⟩
theorem takeP_form {h : H} {x : AV} {l : List UInt8} (hx : Bs h x l) (cx : Cok x) (hl : l.length ≤ 140737488351232) (hR : Re.takeP l = .form) : ∃ r h', Runs TF 8 [x] h r h' ∧ r = .tup [.agg [.int .i64 0, .nils, .bool false], .int .i64 0, .int .i64 5] ∧ Ext h h' := by
  obtain ⟨r, h', a, b, c⟩ := take_run hx cx hl
  rw [hR] at c
  exact ⟨r, h', a, c, b⟩
theorem takeP_ok {h : H} {x : AV} {l : List UInt8} {st n : Nat} {cl : Bool} (hx : Bs h x l) (cx : Cok x) (hl : l.length ≤ 140737488351232) (hR : Re.takeP l = .ok st n cl) : ∃ r h', Runs TF 8 [x] h r h' ∧ ∃ v, r = .tup [.agg [.int .i64 ((st : Nat) : Int), v, .bool cl], .int .i64 (((Re.head st n cl).length + n : Nat) : Int), .int .i64 0] ∧ Ext h h' ∧ Ow h.n h' v ((l.drop (Re.head st n cl).length).take n) := by
  obtain ⟨r, h', a, b, c⟩ := take_run hx cx hl
  rw [hR] at c
  obtain ⟨v, body, N, rfl, rfl, o, rfl⟩ := c
  exact ⟨_, h', a, v, rfl, b, o⟩
theorem takeR_more {h : H} {x : AV} {l : List UInt8} (hx : Bs h x l) (cx : Cok x) (hl : l.length ≤ 140737488351232) (hR : Re.takeR l = .more) : ∃ r h', Runs TF 9 [x] h r h' ∧ r = .tup [.agg [.int .i64 0, .nils, .bool false], .int .i64 0, .int .i64 44] ∧ Ext h h' := by
  obtain ⟨r, h', a, b, c⟩ := takeR_run hx cx hl
  rw [hR] at c
  exact ⟨r, h', a, c, b⟩
theorem takeR_form {h : H} {x : AV} {l : List UInt8} (hx : Bs h x l) (cx : Cok x) (hl : l.length ≤ 140737488351232) (hR : Re.takeR l = .form) : ∃ r h', Runs TF 9 [x] h r h' ∧ r = .tup [.agg [.int .i64 0, .nils, .bool false], .int .i64 0, .int .i64 5] ∧ Ext h h' := by
  obtain ⟨r, h', a, b, c⟩ := takeR_run hx cx hl
  rw [hR] at c
  exact ⟨r, h', a, c, b⟩
theorem takeR_ok {h : H} {x : AV} {l : List UInt8} {st n : Nat} {cl : Bool} (hx : Bs h x l) (cx : Cok x) (hl : l.length ≤ 140737488351232) (hR : Re.takeR l = .ok st n cl) : ∃ r h', Runs TF 9 [x] h r h' ∧ ∃ v, r = .tup [.agg [.int .i64 ((st : Nat) : Int), v, .bool cl], .int .i64 (((Re.head st n cl).length + n : Nat) : Int), .int .i64 0] ∧ Ext h h' ∧ Ow h.n h' v ((l.drop (Re.head st n cl).length).take n) := by
  obtain ⟨r, h', a, b, c⟩ := takeR_run hx cx hl
  rw [hR] at c
  obtain ⟨v, body, N, rfl, rfl, o, rfl⟩ := c
  exact ⟨_, h', a, v, rfl, b, o⟩

theorem sameR_same {h : H} (s : Int) {x x' : AV} (c : Bool) {l : List UInt8} (hx : Bs h x l) (hx' : Bs h x' l) : ∃ r h', Runs TF 10 [.agg [.int .i64 s, x, .bool c], .agg [.int .i64 s, x', .bool c]] h r h' ∧ r = .bool true ∧ Ext h h' := by
  obtain ⟨r, h', a, b, d⟩ := sameR_run (s := s) (s' := s) (c := c) (c' := c) hx hx'
  exact ⟨r, h', a, by rw [b]; simp, d⟩
theorem sameR_nil (h : H) : ∃ r h', Runs TF 10 [.agg [.int .i64 0, .nils, .bool false], .agg [.int .i64 0, .nils, .bool false]] h r h' ∧ r = .bool true ∧ Ext h h' := sameR_same (h := h) 0 false Bs.nil0 Bs.nil0
theorem wakes_run (h : H) : Runs TF 11 [] h (.bool true) h := Runs.nat (fn := { ntmps := 0, results := [], body := .skip, known := true }) rfl rfl
theorem xorU {c : UInt8} (h : H) : ∃ c' : UInt8, ∀ {x y : IX} {ρ : IX → AV}, ρ x = .int .u8 c.toNat → ρ y = .int .u8 1 → iop (.bin .xor x y) ρ h = some (.val (.int .u8 ((c'.toNat : Nat) : Int)) h) := by
  obtain ⟨z, hz⟩ : ∃ z : Int, z = IntKind.u8.wrap ((BitVec.ofInt IntKind.u8.bits (c.toNat : Int) ^^^ BitVec.ofInt IntKind.u8.bits 1).toNat : Int) := ⟨_, rfl⟩
  have hr : 0 ≤ z ∧ z ≤ 255 := by
    rw [hz]
    simp only [IntKind.wrap, IntKind.bits, IntKind.signed]
    simp
    omega
  refine ⟨UInt8.ofNat z.toNat, ?_⟩
  intro x y ρ hx hy
  refine iop_arith hx hy (by simp) ?_
  simp only [binInt]
  rw [← hz, UInt8.toNat_ofNat']
  congr 2
  omega
theorem put_bytesP : ∀ (l : List UInt8) (i : Nat) (c : UInt8), i < l.length → putAt (bytesAV l) i [.int .u8 ((c.toNat : Nat) : Int)] = bytesAV (l.set i c)
  | [], i, c, h => by simp at h
  | a :: l, 0, c, _ => by simp [bytesAV, putAt, setL]
  | a :: l, i + 1, c, h => by
    have ih := put_bytesP l i c (by simpa using h)
    simp [bytesAV, putAt, setL] at ih ⊢
    exact ih
theorem st_byteP {h : H} {b g i : Nat} {l : List UInt8} (p : Pt h b (.cells g 5 (bytesAV l) 0 false)) (hi : i < l.length) (c : UInt8) :
    ∃ h', (∀ {x y : IX} {ρ : IX → AV}, ρ x = .ptr ⟨b, g, 0 + i * 1⟩ → ρ y = .int .u8 ((c.toNat : Nat) : Int) → iop (.st 1 x y) ρ h = some (.val .undef h')) ∧ Pt h' b (.cells g 5 (bytesAV (l.set i c)) 0 false) ∧ Fr (fun s => s = b + 1) h h' := by
  obtain ⟨h', e, p', x, _⟩ := p.st (0 + i * 1) [.int .u8 ((c.toNat : Nat) : Int)] (by simp [bytesAV]; omega) rfl
  refine ⟨h', ?_, ?_, x⟩
  · intro x y ρ hx hy
    exact iop_stP hx hy rfl rfl e
  · have e0 : 0 + i * 1 = i := by omega
    rw [e0, put_bytesP l i c hi] at p'
    exact p'
theorem iop_ldU {h : H} {b g i : Nat} {l : List UInt8} (p : Pt h b (.cells g 5 (bytesAV l) 0 false)) {c : UInt8} (hc : l[i]? = some c) {x : IX} {ρ : IX → AV} (hx : ρ x = .ptr ⟨b, g, 0 + i * 1⟩) : iop (.ld none x) ρ h = some (.val (.int .u8 c.toNat) h) := by
  refine iop_ldP p hx rfl ?_
  have : getL (bytesAV l) i = some (.int .u8 c.toNat) := by
    rw [getL_eq]
    simp [bytesAV, hc]
  simp [ldB, this]

set_option maxHeartbeats 8000000 in
/-- A body is spoiled. -/
theorem spoil3 {b g n p4 : Nat} {q : Cp} {x ow a0 a2 rt : AV} (hne : b ≠ p4) (hn : n ≤ 140737488351232) :
    ∀ (k i : Nat), i + k = n → ∀ (h : H) (l : List UInt8), Pt h p4 (.cells 0 24 [a0, .sl ⟨b, g, 0⟩ n q, a2] 0 false) → Pt h b (.cells g 5 (bytesAV l) 0 false) → l.length = n → ∀ (ts : List AV), ts.length = 64 → getL ts 0 = some x → getL ts 3 = some ow → getL ts 4 = some (.ptr ⟨p4, 0, 0⟩) → getL ts 10 = some rt → getL ts 11 = some (.int .i64 i) →
      ∀ (Q : Ex → St → Prop), (∀ ts' h', Fr (fun s => s = b + 1) h h' → ts'.length = 64 → getL ts' 0 = some x → getL ts' 3 = some ow → getL ts' 10 = some rt → Q (.exit 0) (ts', h')) → Wp TF (.loop l3_1) (ts, h) Q := by
  intro k
  induction k with
  | zero =>
    intro i hi h l P4 Pb hll ts t0 g0 g3 g4 g10 g11 Q hQ
    obtain rfl : i = n := by omega
    have hrf : Fr (fun s => s = b + 1) h h := ⟨Nat.le_refl _, fun _ _ _ => rfl⟩
    refine Wp.loop ?_
    rw [laid_eq t0 [(0, x), (3, ow), (4, .ptr ⟨p4, 0, 0⟩), (10, rt), (11, .int .i64 i)] (by simp [g0, g3, g4, g10, g11])]
    have m1 := Pb.1
    have m2 := P4.1
    have m3 := hrf.1
    refine Wp.seq ?_
    refine Wp.seq ?_
    refine Wp.region ?_
    refine Wo.pre 2 (by kernel_rfl) ?_
    refine Wo.val (AV.sl { b := b, g := g, o := 0 } i q) h (by kernel_rfl) (iop_ldP P4 (a := { b := p4, g := 0, o := 1 }) (by kernel_rfl) rfl (by kernel_rfl)) ?_
    refine Wo.pre 1 (by kernel_rfl) ?_
    refine Wo.cmp (op := .lss) (x := IX.t 39) (y := IX.t 42) (k := IntKind.i64) (a := ↑i) (b := ↑i) ((↑i : Int) < (↑i : Int)) (by kernel_rfl) (by kernel_rfl) (by kernel_rfl) (by kernel_rfl) (by simp) (by kernel_rfl) (fun q4 => ?_) (fun q4 => ?_)
    · (exfalso; omega)
    refine Wo.nil ?_
    refine Wp.cond false (by kernel_rfl) ?_
    refine Wp.exit ?_
    exact hQ _ _ hrf (by kernel_rfl) (by kernel_rfl) (by kernel_rfl) (by kernel_rfl)
  | succ k ih =>
    intro i hi h l P4 Pb hll ts t0 g0 g3 g4 g10 g11 Q hQ
    have hlt : i < l.length := by omega
    obtain ⟨c, hc⟩ : ∃ c, l[i]? = some c := ⟨_, List.getElem?_eq_getElem hlt⟩
    obtain ⟨c', hx'⟩ := xorU (c := c) h
    obtain ⟨h2, hst, Pb2, X2⟩ := st_byteP Pb hlt c'
    have P42 := P4.fr X2 (fun e => hne (Nat.succ.inj e).symm)
    have hl2 : (l.set i c').length = n := by rw [List.length_set]; exact hll
    have hq : ∀ ts' h', Fr (fun s => s = b + 1) h2 h' → ts'.length = 64 → getL ts' 0 = some x → getL ts' 3 = some ow → getL ts' 10 = some rt → Q (.exit 0) (ts', h') := fun ts' h' X => hQ ts' h' ((X2.trans X).mono (fun s _ q => .inl (by rcases q with q | q <;> exact q)))
    refine Wp.loop ?_
    rw [laid_eq t0 [(0, x), (3, ow), (4, .ptr ⟨p4, 0, 0⟩), (10, rt), (11, .int .i64 i)] (by simp [g0, g3, g4, g10, g11])]
    have m1 := P4.1
    have m2 := Pb.1
    have m3 := Pb2.1
    have m4 := P42.1
    have m5 := X2.1
    refine Wp.seq ?_
    refine Wp.seq ?_
    refine Wp.region ?_
    refine Wo.pre 2 (by kernel_rfl) ?_
    refine Wo.val (AV.sl { b := b, g := g, o := 0 } n q) h (by kernel_rfl) (iop_ldP P4 (a := { b := p4, g := 0, o := 1 }) (by kernel_rfl) rfl (by kernel_rfl)) ?_
    refine Wo.pre 1 (by kernel_rfl) ?_
    refine Wo.cmp (op := .lss) (x := IX.t 39) (y := IX.t 42) (k := IntKind.i64) (a := ↑i) (b := ↑n) ((↑i : Int) < (↑n : Int)) (by kernel_rfl) (by kernel_rfl) (by kernel_rfl) (by kernel_rfl) (by simp) (by kernel_rfl) (fun q6 => ?_) (fun q6 => ?_)
    rotate_left
    · (exfalso; omega)
    refine Wo.nil ?_
    refine Wp.cond true (by kernel_rfl) ?_
    refine Wp.skip ?_
    refine Wp.seq ?_
    refine Wp.block ?_
    refine Wp.region ?_
    refine Wo.pre 1 (by kernel_rfl) ?_
    refine Wo.val (AV.sl { b := b, g := g, o := 0 } n q) h (by kernel_rfl) (iop_ldP P4 (a := { b := p4, g := 0, o := 1 }) (by kernel_rfl) rfl (by kernel_rfl)) ?_
    refine Wo.pre 1 (by kernel_rfl) ?_
    refine Wo.val (.ptr ⟨({ b := b, g := g, o := 0 } : AA).b, ({ b := b, g := g, o := 0 } : AA).g, ({ b := b, g := g, o := 0 } : AA).o + (i) * 1⟩) h (by kernel_rfl) (iop_iaN (a := { b := b, g := g, o := 0 }) (n := n) (c := q) (ie := (↑i : Int)) (i := (i)) (by kernel_rfl) (by kernel_rfl) rfl (by first | omega | (simp; omega))) ?_
    refine Wo.val (.int .u8 c.toNat) _ (by kernel_rfl) (iop_ldU Pb hc (by kernel_rfl)) ?_
    refine Wo.val (.int .u8 ((c'.toNat : Nat) : Int)) _ (by kernel_rfl) (hx' (by kernel_rfl) (by kernel_rfl)) ?_
    refine Wo.val (.ptr ⟨({ b := b, g := g, o := 0 } : AA).b, ({ b := b, g := g, o := 0 } : AA).g, ({ b := b, g := g, o := 0 } : AA).o + (i) * 1⟩) h (by kernel_rfl) (iop_iaN (a := { b := b, g := g, o := 0 }) (n := n) (c := q) (ie := (↑i : Int)) (i := (i)) (by kernel_rfl) (by kernel_rfl) rfl (by first | omega | (simp; omega))) ?_
    refine Wo.val .undef h2 (by kernel_rfl) (hst (by kernel_rfl) (by kernel_rfl)) ?_
    refine Wo.nil ?_
    refine Wp.region ?_
    refine Wo.pre 1 (by kernel_rfl) ?_
    refine Wo.val (.int IntKind.i64 ((↑i : Int) + (1 : Int))) h2 (by kernel_rfl) (iop_arith (op := .add) (a := ↑i) (b := 1) (by kernel_rfl) (by kernel_rfl) (by simp) (bin_add IntKind.i64 (by simp only [min_i64]; omega) (by simp only [max_i64]; omega))) ?_
    refine Wo.pre 1 (by kernel_rfl) ?_
    refine Wo.nil ?_
    exact ih (i + 1) (by omega) h2 _ P42 Pb2 hl2 _ (by kernel_rfl) (by kernel_rfl) (by kernel_rfl) (by kernel_rfl) (by kernel_rfl) (by kernel_rfl) Q hq

set_option maxHeartbeats 8000000 in
theorem spoil3_nil {p4 : Nat} {x ow a0 a2 rt : AV} {h : H} (P4 : Pt h p4 (.cells 0 24 [a0, .nils, a2] 0 false)) {ts : List AV} (t0 : ts.length = 64) (g0 : getL ts 0 = some x) (g3 : getL ts 3 = some ow) (g4 : getL ts 4 = some (.ptr ⟨p4, 0, 0⟩)) (g10 : getL ts 10 = some rt) (g11 : getL ts 11 = some (.int .i64 0)) {Q : Ex → St → Prop} (hQ : ∀ ts' h', Ext h h' → ts'.length = 64 → getL ts' 0 = some x → getL ts' 3 = some ow → getL ts' 10 = some rt → Q (.exit 0) (ts', h')) : Wp TF (.loop l3_1) (ts, h) Q := by
  have hrf := Ext.refl h
  refine Wp.loop ?_
  rw [laid_eq t0 [(0, x), (3, ow), (4, .ptr ⟨p4, 0, 0⟩), (10, rt), (11, .int .i64 0)] (by simp [g0, g3, g4, g10, g11])]
  have m1 := P4.1
  have m2 := hrf.1
  refine Wp.seq ?_
  refine Wp.seq ?_
  refine Wp.region ?_
  refine Wo.pre 2 (by kernel_rfl) ?_
  refine Wo.val (AV.nils) h (by kernel_rfl) (iop_ldP P4 (a := { b := p4, g := 0, o := 1 }) (by kernel_rfl) rfl (by kernel_rfl)) ?_
  refine Wo.pre 1 (by kernel_rfl) ?_
  refine Wo.pre 1 (by kernel_rfl) ?_
  refine Wo.nil ?_
  refine Wp.cond false (by kernel_rfl) ?_
  refine Wp.exit ?_
  exact hQ _ _ hrf (by kernel_rfl) (by kernel_rfl) (by kernel_rfl) (by kernel_rfl)
end Go.Det
