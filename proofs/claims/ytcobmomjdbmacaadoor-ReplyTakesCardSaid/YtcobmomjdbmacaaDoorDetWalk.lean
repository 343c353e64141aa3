/- What a walk needs: slots behind writes, numbers that fit. -/
import Derived.Test.YtcobmomjdbmacaaDoorDetBytes
set_option linter.unusedVariables false
set_option linter.unusedSimpArgs false
set_option linter.unusedSectionVars false
namespace Go.Det

theorem getL_put {α : Type} : ∀ (l : List α) (i : Nat) (v : α) (t : Nat), getL (setL l i v) t = if t = i ∧ t < l.length then some v else getL l t
  | [], i, v, t => by simp [setL, getL]
  | x :: l, 0, v, 0 => by simp [setL, getL]
  | x :: l, 0, v, t + 1 => by simp [setL, getL]
  | x :: l, i + 1, v, 0 => by simp [setL, getL]
  | x :: l, i + 1, v, t + 1 => by simp [setL, getL, getL_put l i v t]
theorem len_put {α : Type} : ∀ (l : List α) (i : Nat) (v : α), (setL l i v).length = l.length
  | [], _, _ => rfl
  | _ :: _, 0, _ => rfl
  | _ :: l, i + 1, v => by simp [setL, len_put l i v]

theorem i64_fit (x : Int) (h : -(2 ^ 63) ≤ x ∧ x < 2 ^ 63) : IntKind.i64.wrap x = x := by simp [IntKind.wrap, IntKind.bits, IntKind.signed]; omega
theorem u64_fit (x : Int) (h : 0 ≤ x ∧ x < 2 ^ 64) : IntKind.u64.wrap x = x := by simp [IntKind.wrap, IntKind.bits, IntKind.signed]; omega
theorem u8_fit (x : Int) (h : 0 ≤ x ∧ x < 256) : IntKind.u8.wrap x = x := by simp [IntKind.wrap, IntKind.bits, IntKind.signed]; omega

/-- A row of one byte, just made. -/
theorem Bs.one (h : H) (c : UInt8) : Bs (h.new (.cells 0 5 [.int .u8 c.toNat] 0 false)) (.sl ⟨h.n, 0, 0⟩ 1 (.ex 1)) [c] := by
  refine .inr ⟨⟨h.n, 0, 0⟩, .ex 1, rfl, by simp, ?_⟩
  unfold H.ldn H.row
  simp only [h.get_new, BEq.rfl, if_true]
  rfl

theorem put_byte : ∀ (l : List UInt8) (k : Nat) (c : UInt8), k < l.length → putAt (bytesAV l) k [.int .u8 c.toNat] = bytesAV (l.set k c)
  | [], k, c, h => by simp at h
  | x :: l, 0, c, h => by simp [bytesAV, putAt]
  | x :: l, k + 1, c, h => by
    have := put_byte l k c (by simpa using h)
    simp only [bytesAV, List.map_cons, putAt, List.set_cons_succ] at this ⊢
    rw [this]

theorem get_byte : ∀ (l : List UInt8) (k : Nat), getL (bytesAV l) k = (l[k]?).map fun c => AV.int .u8 c.toNat
  | [], k => by simp [bytesAV, getL]
  | x :: l, 0 => by simp [bytesAV, getL]
  | x :: l, k + 1 => by
    have := get_byte l k
    simp only [bytesAV, List.map_cons, getL, List.getElem?_cons_succ] at this ⊢
    exact this

/-- A byte is written into a row. -/
theorem st_byte {h : H} {b g e : Nat} {l : List UInt8} (hg : h.get b = some (.cells g e (bytesAV l) 0 false)) {k : Nat} (hk : k < l.length) (c : UInt8) :
    h.st ⟨b, g, k⟩ [.int .u8 c.toNat] = some (h.set b (.cells g e (bytesAV (l.set k c)) 0 false)) := by
  unfold H.st
  simp only [hg]
  rw [if_pos (by simp [bytes_len, AV.one]; omega), put_byte l k c hk]

theorem ofNat_mod (x : Nat) : UInt8.ofNat (x % 256) = UInt8.ofNat x := by
  apply UInt8.toNat_inj.1
  simp

/-- Operations that call nothing, run. -/
theorem Wo.of_run {F : FTab} {l : List IOper} {ts : List AV} {h : H} {Q : List AV → H → Prop} (hq : match runOps (fun _ _ _ => none) l ts h with | some (ts', h') => Q ts' h' | none => False) : Wo F l ts h Q := by
  split at hq
  · rename_i hr; exact ⟨0, _, _, hr, hq⟩
  · exact hq.elim

theorem iop_ld {x : IX} {ρ : IX → AV} {h : H} {ag : Option Nat} {a : AA} {v : AV} (hx : ρ x = .ptr a) (hv : h.ldg a ag = some v) : iop (.ld ag x) ρ h = some (.val v h) := by
  simp only [iop, hx, hv, Option.map_some]

theorem Bs.len {h : H} {v : AV} {l : List UInt8} (hb : Bs h v l) {x : IX} {ρ : IX → AV} (hx : ρ x = v) : iop (.len false x) ρ h = some (.val (.int .i64 l.length) h) := by
  rcases hb with ⟨rfl, rfl⟩ | ⟨a, c, rfl, _, _⟩ <;> simp only [iop, hx] <;> rfl

/-- The slots behind operations that call nothing and leave the memory: not laid out; the kernel reckons them where a fact asks. -/
def slots (l : List IOper) (ts : List AV) (h : H) : List AV := match runOps (fun _ _ _ => none) l ts h with
  | some (ts', _) => ts'
  | none => []

def quiets (l : List IOper) (ts : List AV) (h : H) : Option H := match runOps (fun _ _ _ => none) l ts h with
  | some (_, h') => some h'
  | none => none

theorem runOps_app (cf : CallF) : ∀ (l m : List IOper) (ts : List AV) (h : H), runOps cf (l ++ m) ts h = match runOps cf l ts h with
    | some (ts', h') => runOps cf m ts' h'
    | none => none
  | [], m, ts, h => rfl
  | o :: l, m, ts, h => by
    simp only [List.cons_append, runOps]
    split
    · split
      · exact runOps_app cf l m _ _
      · rfl
    · exact runOps_app cf l m _ _

/-- The first k operations, run by the kernel. -/
theorem Wo.pre {F : FTab} (k : Nat) {l : List IOper} {ts : List AV} {h : H} {Q : List AV → H → Prop} (hq : quiets (l.take k) ts h = some h) (hw : Wo F (l.drop k) (slots (l.take k) ts h) h Q) : Wo F l ts h Q := by
  unfold quiets at hq
  split at hq
  · rename_i ts' h' hr
    simp only [Option.some.injEq] at hq
    subst hq
    have e : slots (l.take k) ts h' = ts' := by unfold slots; rw [hr]
    rw [e] at hw
    obtain ⟨n, ts2, h2, h3, h4⟩ := hw
    refine ⟨n, ts2, h2, ?_, h4⟩
    rw [← List.take_append_drop k l, runOps_app, runOps_mono (cf' := (mach F n).call) (fun _ _ _ _ x => by simp at x) _ _ _ _ hr]
    exact h3
  · simp at hq

theorem Wo.all {F : FTab} {l : List IOper} {ts : List AV} {h : H} {Q : List AV → H → Prop} (hq : quiets l ts h = some h) (hw : Q (slots l ts h) h) : Wo F l ts h Q := by
  refine Wo.pre l.length (by simpa using hq) ?_
  simp only [List.drop_length, List.take_length]
  exact Wo.nil hw

theorem ldn_take {h : H} {a : AA} {m : Nat} {c : List AV} (hc : h.ldn a m = some c) {n : Nat} (hn : n ≤ m) : h.ldn a n = some (c.take n) := by
  unfold H.ldn at hc ⊢
  cases hr : h.row a with
  | some c0 =>
    rw [hr] at hc
    simp only [] at hc ⊢
    simp only [cut] at hc ⊢
    split at hc
    · rename_i hl
      simp only [Option.some.injEq] at hc
      subst hc
      have hl : ((c0.drop a.o).take m).length = m := by simpa using hl
      rw [List.length_take] at hl
      rw [if_pos (by simp [List.length_take]; simp at hl; omega), List.take_take, Nat.min_eq_left hn]
    · simp at hc
  | none => rw [hr] at hc; simp at hc

theorem row_drop {h : H} {a : AA} {c : List AV} (hr : h.row a = some c) (n : Nat) : h.row ⟨a.b, a.g, a.o + n⟩ = some c := by
  unfold H.row at hr ⊢
  simp only [] at hr ⊢
  split at hr
  · rename_i hg
    split at hr
    · rename_i hk
      simp only [Bool.and_eq_true, Bool.or_eq_true, decide_eq_true_eq] at hk
      rw [if_pos (by simp only [Bool.and_eq_true, Bool.or_eq_true, decide_eq_true_eq]; exact ⟨hk.1, hk.2.imp id (fun x => Nat.le_add_right_of_le x)⟩)]
      exact hr
    · simp at hr
  · simp at hr

theorem ldn_drop {h : H} {a : AA} {m : Nat} {c : List AV} (hc : h.ldn a m = some c) {n : Nat} (hn : n ≤ m) : h.ldn ⟨a.b, a.g, a.o + n⟩ (m - n) = some (c.drop n) := by
  unfold H.ldn at hc ⊢
  cases hr : h.row a with
  | some c0 =>
    rw [row_drop hr n]
    rw [hr] at hc
    simp only [] at hc ⊢
    simp only [cut] at hc ⊢
    split at hc
    · rename_i hl
      simp only [Option.some.injEq] at hc
      subst hc
      have hl : ((c0.drop a.o).take m).length = m := by simpa using hl
      rw [List.length_take] at hl
      rw [if_pos (by simp [List.length_take]; simp at hl; omega), List.drop_take, List.drop_drop]
    · simp at hc
  | none => rw [hr] at hc; simp at hc

theorem bytes_take (l : List UInt8) (n : Nat) : (bytesAV l).take n = bytesAV (l.take n) := by simp [bytesAV, List.map_take]
theorem bytes_drop (l : List UInt8) (n : Nat) : (bytesAV l).drop n = bytesAV (l.drop n) := by simp [bytesAV, List.map_drop]

/-- A row of n zero bytes is made. -/
theorem iop_mkS {x : IX} {ρ : IX → AV} {h : H} {n : Nat} {k : IntKind} (hx : ρ x = .int k n) (hn : n ≤ maxRow) : iop (.mkS 5 [.int .u8 0] 1 x x) ρ h = some (.val (.sl ⟨h.n, 0, 0⟩ n (.ex n)) (h.new (.cells 0 5 (List.replicate n (.int .u8 0)) 0 false))) := by
  simp only [iop, hx, asI]
  rw [if_pos (by unfold maxRow at *; simp; omega)]
  have : ∀ n, (List.replicate n [AV.int .u8 0]).flatten = List.replicate n (AV.int .u8 0) := by
    intro n
    induction n with
    | zero => rfl
    | succ n ih => rw [List.replicate_succ, List.flatten_cons, ih]; rfl
  simp [this]

/-- The rest of a row. -/
theorem Bs.drop {h : H} {v : AV} {l : List UInt8} (hb : Bs h v l) (hok : ∀ a m c, v = .sl a m c → (∃ k, c = .ex k ∧ m ≤ k) ∨ c = .op 1) {n : Nat} (hn : n ≤ l.length) :
    ∃ v', (∀ (x y : IX) (ρ : IX → AV), ρ x = v → ρ y = .int .i64 n → iop (.slL 1 x (some y) none none) ρ h = some (.val v' h)) ∧ Bs h v' (l.drop n) ∧ (∀ a m c, v' = .sl a m c → (∃ a0 m0 c0, v = .sl a0 m0 c0 ∧ a0.b = a.b) ∧ ((∃ k, c = .ex k ∧ m ≤ k) ∨ c = .op 1)) ∧ v'.cells = [v'] ∧ v'.one = true := by
  rcases hb with ⟨rfl, rfl⟩ | ⟨a, c, rfl, ha, hld⟩
  · have : n = 0 := by simpa using hn
    subst this
    refine ⟨.nils, ?_, .inl ⟨rfl, rfl⟩, by simp, rfl, rfl⟩
    intro x y ρ hx hy
    simp [iop, hx, hy, bounds, asI]
  · have h1 : (0 : Int) ≤ (n : Int) ∧ (n : Int) ≤ (l.length : Int) := by omega
    have hd := ldn_drop hld hn
    rw [bytes_drop] at hd
    rcases hok a _ c rfl with ⟨k, rfl, hk⟩ | rfl
    · by_cases hkn : k = n
      · have hln : l.length = n := by omega
        refine ⟨.sl a (l.length - n) (.ex (k - n)), ?_, ?_, ?_, rfl, rfl⟩
        · intro x y ρ hx hy
          simp [iop, hx, hy, bounds, asI, hn, hkn]
        · refine .inr ⟨a, .ex (k - n), by simp, ha, ?_⟩
          have := ldn_take hld (n := 0) (by omega)
          rw [show (l.drop n).length = 0 by simp; omega, this]
          rw [show l.drop n = [] by rw [← hln]; simp]
          rfl
        · intro a' m' c' e
          simp only [AV.sl.injEq] at e
          obtain ⟨rfl, rfl, rfl⟩ := e
          exact ⟨⟨a, _, _, rfl, rfl⟩, .inl ⟨_, rfl, by omega⟩⟩
      · refine ⟨.sl ⟨a.b, a.g, a.o + n⟩ (l.length - n) (.ex (k - n)), ?_, ?_, ?_, rfl, rfl⟩
        · intro x y ρ hx hy
          simp [iop, hx, hy, bounds, asI, hn, hkn]
        · exact .inr ⟨⟨a.b, a.g, a.o + n⟩, .ex (k - n), by simp, ha, by rw [List.length_drop]; exact hd⟩
        · intro a' m' c' e
          simp only [AV.sl.injEq] at e
          obtain ⟨rfl, rfl, rfl⟩ := e
          exact ⟨⟨a, _, _, rfl, rfl⟩, .inl ⟨_, rfl, by omega⟩⟩
    · refine ⟨.sl ⟨a.b, a.g, a.o + n⟩ (l.length - n) (.op 1), ?_, ?_, ?_, rfl, rfl⟩
      · intro x y ρ hx hy
        simp [iop, hx, hy, bounds, asI, hn]
      · exact .inr ⟨⟨a.b, a.g, a.o + n⟩, .op 1, by simp, ha, by rw [List.length_drop]; exact hd⟩
      · intro a' m' c' e
        simp only [AV.sl.injEq] at e
        obtain ⟨rfl, rfl, rfl⟩ := e
        exact ⟨⟨a, _, _, rfl, rfl⟩, .inr rfl⟩

/-- A slice's capacity is known, or open. -/
def Cok (v : AV) : Prop := ∀ a m c, v = .sl a m c → (∃ k, c = .ex k ∧ m ≤ k) ∨ c = .op 1

theorem Ow.cok {lo : Nat} {h : H} {v : AV} {l : List UInt8} (ho : Ow lo h v l) : Cok v := by
  rintro a m c rfl
  rcases ho with ⟨e, _⟩ | ⟨b, g, _, _, _, e | e⟩
  · simp at e
  · simp only [AV.sl.injEq] at e; exact .inr e.2.2
  · simp only [AV.sl.injEq] at e; exact .inl ⟨_, e.2.2, by omega⟩

/-- The beginning of a row. -/
theorem Bs.take {h : H} {v : AV} {l : List UInt8} (hb : Bs h v l) (hok : Cok v) {n : Nat} (hn : n ≤ l.length) :
    ∃ v', (∀ (x y : IX) (ρ : IX → AV), ρ x = v → ρ y = .int .i64 n → iop (.slL 1 x none (some y) none) ρ h = some (.val v' h)) ∧ Bs h v' (l.take n) ∧ Cok v' := by
  rcases hb with ⟨rfl, rfl⟩ | ⟨a, c, rfl, ha, hld⟩
  · have : n = 0 := by simpa using hn
    subst this
    refine ⟨.nils, ?_, .inl ⟨rfl, rfl⟩, by rintro a m c e; simp at e⟩
    intro x y ρ hx hy
    simp [iop, hx, hy, bounds, asI]
  · have hd := ldn_take hld hn
    rw [bytes_take] at hd
    have hln : (l.take n).length = n := by rw [List.length_take]; omega
    rcases hok a _ c rfl with ⟨k, rfl, hk⟩ | rfl
    · have h1 : (n : Int) ≤ (k : Int) := by omega
      by_cases hk0 : k = 0
      · have hn0 : n = 0 := by omega
        subst hn0
        refine ⟨.sl a 0 (.ex k), ?_, .inr ⟨a, .ex k, by simp, ha, by simpa using hd⟩, ?_⟩
        · intro x y ρ hx hy
          simp [iop, hx, hy, bounds, asI, hk0]
        · rintro a' m' c' e
          simp only [AV.sl.injEq] at e
          obtain ⟨rfl, rfl, rfl⟩ := e
          exact .inl ⟨_, rfl, by omega⟩
      · refine ⟨.sl a n (.ex k), ?_, .inr ⟨a, .ex k, by rw [hln], ha, by rw [hln]; exact hd⟩, ?_⟩
        · intro x y ρ hx hy
          have h0 : (0 : Int) ≤ n := by omega
          have : (k == 0) = false := by simpa using hk0
          simp [iop, hx, hy, bounds, asI, h1, hk0]
        · rintro a' m' c' e
          simp only [AV.sl.injEq] at e
          obtain ⟨rfl, rfl, rfl⟩ := e
          exact .inl ⟨_, rfl, by omega⟩
    · refine ⟨.sl a n (.op 1), ?_, .inr ⟨a, .op 1, by rw [hln], ha, by rw [hln]; exact hd⟩, ?_⟩
      · intro x y ρ hx hy
        have h0 : (0 : Int) ≤ n := by omega
        have h1 : (n : Int) ≤ (l.length : Int) := by omega
        simp [iop, hx, hy, bounds, asI, hn]
      · rintro a' m' c' e
        simp only [AV.sl.injEq] at e
        obtain ⟨rfl, rfl, rfl⟩ := e
        exact .inr rfl

/-- Two equal numbers, held against each other. -/
theorem iop_eqI {x y : IX} {ρ : IX → AV} {h : H} {k : IntKind} {a b : Int} (hx : ρ x = .int k a) (hy : ρ y = .int k b) (e : a = b) : iop (.bin .eql x y) ρ h = some (.val (.bool true) h) := by
  subst e
  simp [iop, binop, binInt, hx, hy]

end Go.Det
