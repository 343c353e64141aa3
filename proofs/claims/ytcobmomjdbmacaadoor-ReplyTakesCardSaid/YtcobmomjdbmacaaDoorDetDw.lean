/- Walks by the kernel through regions whose order is drawn; what a loop leaves, laid out; some operations' facts. -/
import Derived.Test.YtcobmomjdbmacaaDoorDetWalk
import Derived.Test.YtcobmomjdbmacaaDoorDetWd
set_option linter.unusedVariables false
set_option linter.unusedSimpArgs false
set_option linter.unusedSectionVars false
namespace Go.Det
section
variable {F : FTab}

/-- An operation that reads nothing that may move, run by the kernel. -/
theorem Wd.pure {o : IOper} {id mask : Nat} {l : List DOper} {ts : List AV} {h : H} {pe : Pend} {Q : List AV → H → Prop} (hq : quiets [o] ts h = some h) (hr : (rdOp (ev ts) o.op).isNone = true) (hw : Wd F l (slots [o] ts h) h pe Q) : Wd F (⟨o, false, id, mask⟩ :: l) ts h pe Q := by
  obtain ⟨d, op, g⟩ := o
  rw [wd_quiet]
  unfold quiets at hq
  unfold slots at hw
  simp only [runOps] at hq hw
  split
  · rename_i hg
    rw [if_pos hg] at hq hw
    cases hi : iop op (ev ts) h with
    | none => simp [hi, oneOp] at hq
    | some a =>
      cases a with
      | val v h' =>
        simp only [hi, oneOp, Option.some.injEq] at hq hw
        subst hq
        have hp : pe.add ts ⟨⟨d, op, g⟩, false, id, mask⟩ v = pe := by
          unfold Pend.add
          simp only []
          simp only [Option.isNone_iff_eq_none] at hr
          rw [hr]
        show Wd F l (put ts d v) h' (pe.add ts ⟨⟨d, op, g⟩, false, id, mask⟩ v) Q
        rw [hp]
        exact hw
      | call f args => simp [hi, oneOp] at hq
  · rename_i hg
    rw [if_neg hg] at hq hw
    exact hw

theorem Wd.not {o : IOper} {b : Bool} {id mask : Nat} {l : List DOper} {ts : List AV} {h : H} {pe : Pend} {Q : List AV → H → Prop} (hg : wanted o.guard ts = false) (hb : b = false) (hw : Wd F l (put ts o.dst .undef) h pe Q) : Wd F (⟨o, b, id, mask⟩ :: l) ts h pe Q := by
  obtain ⟨d, op, g⟩ := o
  subst hb
  have hg : wanted g ts = false := hg
  rw [wd_quiet, if_neg (by rw [hg]; simp)]
  exact hw

/-- A reader. -/
theorem Wd.read {o : IOper} {id mask : Nat} {l : List DOper} {ts : List AV} {h : H} {pe : Pend} {Q : List AV → H → Prop} (v : AV) (r : IOp) (hg : wanted o.guard ts = true) (hr : rdOp (ev ts) o.op = some r) (hi : iop o.op (ev ts) h = some (.val v h)) (hw : Wd F l (put ts o.dst v) h ((r, v, id) :: pe) Q) : Wd F (⟨o, false, id, mask⟩ :: l) ts h pe Q := by
  obtain ⟨d, op, g⟩ := o
  have hg : wanted g ts = true := hg
  have hi : iop op (ev ts) h = some (.val v h) := hi
  rw [wd_quiet, if_pos hg, hi]
  show Wd F l (put ts d v) h (pe.add ts ⟨⟨d, op, g⟩, false, id, mask⟩ v) Q
  have hp : pe.add ts ⟨⟨d, op, g⟩, false, id, mask⟩ v = (r, v, id) :: pe := by
    unfold Pend.add
    have hr : rdOp (ev ts) op = some r := hr
    simp only [hr]
  rw [hp]
  exact hw

/-- Something that is made, quietly. -/
theorem Wd.make {o : IOper} {id mask : Nat} {l : List DOper} {ts : List AV} {h : H} {pe : Pend} {Q : List AV → H → Prop} (v : AV) (h' : H) (hg : wanted o.guard ts = true) (hr : (rdOp (ev ts) o.op).isNone = true) (hi : iop o.op (ev ts) h = some (.val v h')) (hw : Wd F l (put ts o.dst v) h' pe Q) : Wd F (⟨o, false, id, mask⟩ :: l) ts h pe Q := by
  obtain ⟨d, op, g⟩ := o
  have hg : wanted g ts = true := hg
  have hi : iop op (ev ts) h = some (.val v h') := hi
  rw [wd_quiet, if_pos hg, hi]
  show Wd F l (put ts d v) h' (pe.add ts ⟨⟨d, op, g⟩, false, id, mask⟩ v) Q
  have hp : pe.add ts ⟨⟨d, op, g⟩, false, id, mask⟩ v = pe := by
    unfold Pend.add
    simp only []
    simp only [Option.isNone_iff_eq_none] at hr
    rw [hr]
  rw [hp]
  exact hw

/-- An act that calls. -/
theorem Wd.call {o : IOper} {id mask : Nat} {l : List DOper} {ts : List AV} {h : H} {pe : Pend} {Q : List AV → H → Prop} {f : FuncId} {args : List AV} (hg : wanted o.guard ts = true) (hi : iop o.op (ev ts) h = some (.call f args)) {v : AV} {h' : H} (hr : Runs F f args h v h') (hp : pe.holds h = true) (hw : Wd F l (put ts o.dst v) h' (pe.filter fun p => !mask.testBit p.2.2) Q) : Wd F (⟨o, true, id, mask⟩ :: l) ts h pe Q := by
  obtain ⟨d, op, g⟩ := o
  have hg : wanted g ts = true := hg
  have hi : iop op (ev ts) h = some (.call f args) := hi
  rw [wd_act]
  refine ⟨hp, ?_⟩
  rw [if_pos hg, hi]
  exact ⟨v, h', hr, hw⟩

/-- An act that answers by itself. -/
theorem Wd.act {o : IOper} {id mask : Nat} {l : List DOper} {ts : List AV} {h : H} {pe : Pend} {Q : List AV → H → Prop} (v : AV) (h' : H) (hg : wanted o.guard ts = true) (hi : iop o.op (ev ts) h = some (.val v h')) (hp : pe.holds h = true) (hw : Wd F l (put ts o.dst v) h' (pe.filter fun p => !mask.testBit p.2.2) Q) : Wd F (⟨o, true, id, mask⟩ :: l) ts h pe Q := by
  obtain ⟨d, op, g⟩ := o
  have hg : wanted g ts = true := hg
  have hi : iop op (ev ts) h = some (.val v h') := hi
  rw [wd_act]
  refine ⟨hp, ?_⟩
  rw [if_pos hg, hi]
  exact hw

theorem Wd.actNot {o : IOper} {id mask : Nat} {l : List DOper} {ts : List AV} {h : H} {pe : Pend} {Q : List AV → H → Prop} (hg : wanted o.guard ts = false) (hp : pe.holds h = true) (hw : Wd F l (put ts o.dst .undef) h (pe.filter fun p => !mask.testBit p.2.2) Q) : Wd F (⟨o, true, id, mask⟩ :: l) ts h pe Q := by
  obtain ⟨d, op, g⟩ := o
  have hg : wanted g ts = false := hg
  rw [wd_act]
  refine ⟨hp, ?_⟩
  rw [if_neg (by rw [hg]; simp)]
  exact hw

theorem Wd.done {ts : List AV} {h : H} {pe : Pend} {Q : List AV → H → Prop} (hp : pe.holds h = true) (hw : Q ts h) : Wd F [] ts h pe Q := wd_nil.2 ⟨hp, hw⟩
theorem Wp.draw {l : List DOper} {ts : List AV} {h : H} {Q : Ex → St → Prop} (hw : Wd F l ts h [] (fun ts' h' => Q .normal (ts', h'))) : Wp F (.draw l) (ts, h) Q := draw_iff.2 hw

/-- What still may stand behind, laid out. -/
theorem holds_of {pe : Pend} (pe' : Pend) {h : H} (e : pe = pe') (hp : pe'.holds h = true) : pe.holds h = true := by rw [e]; exact hp
theorem rd_ld {a : AA} {ag : Option Nat} {v : AV} {h : H} (hv : h.ldg a ag = some v) : readsAs (.ld ag (.c (.ptr a))) v h = true := reads_ok (h' := h) (by simp [iop, ev, hv])
theorem holds_and {r : IOp} {v : AV} {i : Nat} {pe : Pend} {h : H} (h1 : readsAs r v h = true) (h2 : pe.holds h = true) : Pend.holds ((r, v, i) :: pe) h = true := holds_cons.2 ⟨h1, h2⟩
end

/-! ### What a loop leaves, laid out -/
theorem getL_ne {α : Type} (l : List α) {d j : Nat} (v : α) (hj : j ≠ d) : getL (setL l d v) j = getL l j := by
  rw [getL_put, if_neg (by omega)]
theorem getL_low {α : Type} (l : List α) {d j m : Nat} (v : α) (hj : j < m) (hd : m ≤ d) : getL (setL l d v) j = getL l j := by
  rw [getL_put, if_neg (by omega)]

def laid (n : Nat) (ts : List AV) (ov : List (Nat × AV)) : List AV := (List.range n).map fun i => match ov.find? fun p => p.1 == i with
  | some p => p.2
  | none => (getL ts i).getD .undef
theorem laid_eq {n : Nat} {ts : List AV} (hl : ts.length = n) (ov : List (Nat × AV)) (ho : ∀ p ∈ ov, getL ts p.1 = some p.2) : ts = laid n ts ov := by
  apply List.ext_getElem?
  intro i
  unfold laid
  rw [List.getElem?_map]
  by_cases hi : i < n
  · rw [List.getElem?_range hi]
    simp only [Option.map_some]
    have hg : ts[i]? = some (ts[i]'(by omega)) := List.getElem?_eq_getElem (by omega)
    split
    · rename_i p hp
      have h1 := List.mem_of_find?_eq_some hp
      have h2 : p.1 = i := by simpa using List.find?_some hp
      have h3 := ho p h1
      rw [getL_eq, h2] at h3
      exact h3
    · rw [getL_eq, hg]
      rfl
  · rw [List.getElem?_eq_none (by omega), List.getElem?_eq_none (by simp; omega)]
    rfl

theorem laid_of {n : Nat} {ts ts0 : List AV} (hl : ts.length = n) (m : Nat) (hs : ∀ j, j < m → getL ts j = getL ts0 j) (ov : List (Nat × AV)) (ho : (ov.all fun p => decide (p.1 < m)) = true) (he : (ov.map fun p => getL ts0 p.1) = ov.map fun p => some p.2) : ts = laid n ts ov := by
  refine laid_eq hl ov fun p hp => ?_
  have h1 : p.1 < m := by simpa using List.all_eq_true.1 ho p hp
  rw [hs _ h1]
  clear ho hs hl
  induction ov with
  | nil => simp at hp
  | cons q ov ih =>
    simp only [List.map_cons, List.cons.injEq] at he
    rcases List.mem_cons.1 hp with rfl | hp
    · exact he.1
    · exact ih he.2 hp

/-! ### Operations -/
theorem iop_app {x y : IX} {ρ : IX → AV} {h h' : H} {v w z : AV} {e : Nat} (hx : ρ x = v) (hy : ρ y = w) (hs : isStrV w = false) (ha : append h e 1 1 v w = some (.val z h')) : iop (.app e 1 1 false x y) ρ h = some (.val z h') := by
  simp only [iop, hx, hy, hs, BEq.rfl, if_true, ha]

theorem Bs.parts {h : H} {v : AV} {l : List UInt8} (hb : Bs h v l) : v.cells = [v] ∧ v.one = true ∧ isStrV v = false := by
  rcases hb with ⟨rfl, _⟩ | ⟨_, _, rfl, _, _⟩ <;> exact ⟨rfl, rfl, rfl⟩

theorem iop_st1 {x y : IX} {ρ : IX → AV} {h h' : H} {a : AA} {v : AV} (hx : ρ x = .ptr a) (hy : ρ y = v) (hc : v.cells = [v]) (hs : h.st a [v] = some h') : iop (.st 1 x y) ρ h = some (.val .undef h') := by
  simp only [iop, hx, hy, hc, List.length_cons, List.length_nil, BEq.rfl, if_true, hs, Option.map_some]

theorem iop_cvBS {x : IX} {ρ : IX → AV} {h : H} {v : AV} {l : List UInt8} (hx : ρ x = v) (hb : Bs h v l) : iop (.cvBS x) ρ h = some (.val (.str l) h) := by
  have tob : ∀ l : List UInt8, toBytes (bytesAV l) = some l := by
    intro l
    induction l with
    | nil => rfl
    | cons c l ih => simp only [bytesAV, List.map_cons, toBytes] at ih ⊢; rw [ih]; simp
  rcases hb with ⟨rfl, rfl⟩ | ⟨a, c, rfl, _, h2⟩
  · simp only [iop, hx]
  · simp [iop, hx, h2, tob]

theorem iop_eqB {x y : IX} {ρ : IX → AV} {h : H} {k : IntKind} {a b : Int} (c : Bool) (hx : ρ x = .int k a) (hy : ρ y = .int k b) (e : (a == b) = c) : iop (.bin .eql x y) ρ h = some (.val (.bool c) h) := by
  simp [iop, binop, binInt, hx, hy, ← e]
theorem iop_neB {x y : IX} {ρ : IX → AV} {h : H} {k : IntKind} {a b : Int} (c : Bool) (hx : ρ x = .int k a) (hy : ρ y = .int k b) (e : (a != b) = c) : iop (.bin .neq x y) ρ h = some (.val (.bool c) h) := by
  simp [iop, binop, binInt, hx, hy, ← e]

theorem iop_new {x : IX} {ρ : IX → AV} {h : H} {t : TypeId} {cs : List AV} (hx : ρ x = .agg cs) (h1 : cs.all AV.one = true) : iop (.new t x) ρ h = some (.val (.ptr ⟨h.n, 0, 0⟩) (h.new (.cells 0 t cs 0 false))) := by
  have e : (AV.agg cs).cells = cs := rfl
  simp only [iop, hx, e, h1, if_true]

theorem Ext.then2 {h h' h'' : H} (a : Ext h h') (b : Ext2 h.n h' h'') : Ext h h'' := ⟨Nat.le_trans a.1 b.1, fun k hk => (b.2 k hk).trans (a.2 k hk)⟩

/-- A copy of a row, onto a row that was made for it. -/
theorem copy_new {h : H} {y : AV} {l : List UInt8} (hy : Bs h y l) (hl : l.length ≤ maxRow) : ∃ z h2, append (h.new (.cells 0 5 [] 0 false)) 5 1 1 (.sl ⟨h.n, 0, 0⟩ 0 (.ex 0)) y = some (.val z h2) ∧ Ow h.n h2 z l ∧ Ext h h2 := by
  have hy' : Bs (h.new (.cells 0 5 [] 0 false)) y l := hy.ext (Ext.new h _)
  obtain ⟨x, h', e1, e2, e3, _⟩ := Ow.app (lo := h.n) (h := h.new (.cells 0 5 [] 0 false)) (x := .sl ⟨h.n, 0, 0⟩ 0 (.ex 0)) (l := []) (.inr ⟨h.n, 0, Nat.le_refl _, by simp, by rw [h.get_new]; rfl, .inr rfl⟩) hy' (by simp) (by simpa using hl)
  exact ⟨x, h', e1, e2, (Ext.new h _).then2 e3⟩

/-- A row that is written out. -/
theorem Ow.lit (h : H) (l : List UInt8) : Ow h.n (h.new (.cells 0 5 (bytesAV l) 0 false)) (.sl ⟨h.n, 0, 0⟩ l.length (.ex l.length)) l :=
  .inr ⟨h.n, 0, Nat.le_refl _, by simp, by rw [h.get_new], .inr rfl⟩

/-- The rest of a row, from a place on; between two places. -/
theorem Bs.sub {h : H} {v : AV} {l : List UInt8} (hb : Bs h v l) (hok : Cok v) {i j : Nat} (hi : i ≤ j) (hj : j ≤ l.length) :
    ∃ v', (∀ (x y z : IX) (ρ : IX → AV), ρ x = v → ρ y = .int .i64 i → ρ z = .int .i64 j → iop (.slL 1 x (some y) (some z) none) ρ h = some (.val v' h)) ∧ Bs h v' ((l.take j).drop i) ∧ Cok v' := by
  have hlen : ((l.take j).drop i).length = j - i := by rw [List.length_drop, List.length_take]; omega
  have c1 : (0 : Int) ≤ (i : Int) ∧ (i : Int) ≤ (j : Int) ∧ (0 : Int) ≤ (j : Int) ∧ (j : Int) ≤ (l.length : Int) := by omega
  rcases hb with ⟨rfl, rfl⟩ | ⟨a, c, rfl, ha, hld⟩
  · have hj0 : j = 0 := by simpa using hj
    have hi0 : i = 0 := by omega
    subst hj0; subst hi0
    refine ⟨.nils, ?_, .inl ⟨rfl, rfl⟩, by rintro a m c e; simp at e⟩
    intro x y z ρ hx hy hz
    simp [iop, hx, hy, hz, bounds, asI]
  · have hd := ldn_take (ldn_drop hld (n := i) (by omega)) (n := j - i) (by omega)
    rw [bytes_drop, bytes_take] at hd
    have e : (l.drop i).take (j - i) = (l.take j).drop i := by rw [List.drop_take]
    rw [e] at hd
    rcases hok a _ c rfl with ⟨k, rfl, hk⟩ | rfl
    · have h1 : (j : Int) ≤ (k : Int) := by omega
      by_cases hkn : k = i
      · have hij : j = i := by omega
        subst hij
        refine ⟨.sl a (j - j) (.ex (k - j)), ?_, .inr ⟨a, .ex (k - j), by rw [hlen], ha, ?_⟩, ?_⟩
        · intro x y z ρ hx hy hz
          simp [iop, hx, hy, hz, bounds, asI, hkn]
        · have := ldn_take hld (n := 0) (by omega)
          have e0 : (l.take j).drop j = [] := List.eq_nil_of_length_eq_zero (by rw [hlen]; omega)
          rw [hlen, e0, show j - j = 0 by omega, this]
          rfl
        · rintro a' m' c' e
          simp only [AV.sl.injEq] at e
          obtain ⟨rfl, rfl, rfl⟩ := e
          exact .inl ⟨_, rfl, by omega⟩
      · refine ⟨.sl ⟨a.b, a.g, a.o + i⟩ (j - i) (.ex (k - i)), ?_, .inr ⟨⟨a.b, a.g, a.o + i⟩, .ex (k - i), by rw [hlen], ha, by rw [hlen]; exact hd⟩, ?_⟩
        · intro x y z ρ hx hy hz
          simp [iop, hx, hy, hz, bounds, asI, h1, hkn, hi]
        · rintro a' m' c' e
          simp only [AV.sl.injEq] at e
          obtain ⟨rfl, rfl, rfl⟩ := e
          exact .inl ⟨_, rfl, by omega⟩
    · refine ⟨.sl ⟨a.b, a.g, a.o + i⟩ (j - i) (.op 1), ?_, .inr ⟨⟨a.b, a.g, a.o + i⟩, .op 1, by rw [hlen], ha, by rw [hlen]; exact hd⟩, ?_⟩
      · intro x y z ρ hx hy hz
        simp [iop, hx, hy, hz, bounds, asI, hi, hj]
      · rintro a' m' c' e
        simp only [AV.sl.injEq] at e
        obtain ⟨rfl, rfl, rfl⟩ := e
        exact .inr rfl
end Go.Det
