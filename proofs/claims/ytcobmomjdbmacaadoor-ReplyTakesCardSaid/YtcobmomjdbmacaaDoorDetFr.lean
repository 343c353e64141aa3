/- What stands and what does not: frames by the blocks that may have changed; blocks as they are. -/
import Derived.Test.YtcobmomjdbmacaaDoorDetDw
set_option linter.unusedVariables false
set_option linter.unusedSimpArgs false
set_option linter.unusedSectionVars false
namespace Go.Det

/-- A slice's block, told as its number and one; 0 for none. -/
def blk : AV → Nat
  | .sl a _ _ => a.b + 1
  | _ => 0

theorem blk_sl (a : AA) (n : Nat) (c : Cp) : blk (.sl a n c) = a.b + 1 := rfl
theorem blk_nils : blk .nils = 0 := rfl

/-- What was there stands, but for the blocks of which S holds (told as their numbers and one). -/
def Fr (S : Nat → Prop) (h h' : H) : Prop := h.n ≤ h'.n ∧ ∀ b, b < h.n → ¬ S (b + 1) → h'.get b = h.get b
/-- Nothing. -/
abbrev No : Nat → Prop := fun _ => False

theorem Fr.refl (h : H) : Fr No h h := ⟨Nat.le_refl _, fun _ _ _ => rfl⟩
theorem Fr.trans {S T : Nat → Prop} {h h' h'' : H} (x : Fr S h h') (y : Fr T h' h'') : Fr (fun s => S s ∨ T s) h h'' :=
  ⟨Nat.le_trans x.1 y.1, fun b hb hs => by
    have := x.1
    rw [y.2 b (by omega) (fun e => hs (.inr e)), x.2 b hb (fun e => hs (.inl e))]⟩
theorem Fr.mono {S T : Nat → Prop} {h h' : H} (x : Fr S h h') (hs : ∀ s, s ≤ h.n → S s → T s ∨ s = 0) : Fr T h h' := ⟨x.1, fun b hb hn => x.2 b hb (fun e => by rcases hs _ hb e with e | e; exact hn e; omega)⟩
theorem Fr.trans0 {h h' h'' : H} (x : Fr No h h') (y : Fr No h' h'') : Fr No h h'' := (x.trans y).mono (by simp)
theorem Fr.transL {S : Nat → Prop} {h h' h'' : H} (x : Fr No h h') (y : Fr S h' h'') : Fr S h h'' := (x.trans y).mono (by simp +contextual)
theorem Fr.transR {S : Nat → Prop} {h h' h'' : H} (x : Fr S h h') (y : Fr No h' h'') : Fr S h h'' := (x.trans y).mono (by simp +contextual)
theorem Ext.fr {h h' : H} (x : Ext h h') : Fr No h h' := ⟨x.1, fun b hb _ => x.2 b hb⟩
/-- The blocks that changed are new. -/
theorem Fr.ext {S : Nat → Prop} {h h' : H} (x : Fr S h h') (hs : ∀ s, S s → s = 0 ∨ h.n < s) : Ext h h' := ⟨x.1, fun b hb => x.2 b hb (fun e => by have := hs _ e; omega)⟩
theorem Fr.ext0 {h h' : H} (x : Fr No h h') : Ext h h' := x.ext (by simp)

theorem ones_nil : ([] : List AV).all AV.one = true := rfl
theorem ones_cons {v : AV} {l : List AV} (h : v.one = true) (t : l.all AV.one = true) : (v :: l).all AV.one = true := by rw [List.all_cons, h, t]; rfl

/-! Rows of bytes -/
theorem Bs.bd {h : H} {v : AV} {l : List UInt8} (hb : Bs h v l) : blk v ≤ h.n := by
  rcases hb with ⟨rfl, _⟩ | ⟨a, c, rfl, h1, _⟩
  · exact Nat.zero_le _
  · exact h1
theorem Bs.fr {h h' : H} {v : AV} {l : List UInt8} (hb : Bs h v l) {S : Nat → Prop} (x : Fr S h h') (hs : blk v = 0 ∨ ¬ S (blk v)) : Bs h' v l := by
  have := x.1
  rcases hb with ⟨rfl, rfl⟩ | ⟨a, c, rfl, h1, h2⟩
  · exact .inl ⟨rfl, rfl⟩
  · exact .inr ⟨a, c, rfl, by omega, by rw [ldn_same (x.2 _ h1 (hs.resolve_left (by simp [blk_sl])))]; exact h2⟩
theorem Ow.bd {lo : Nat} {h : H} {v : AV} {l : List UInt8} (ho : Ow lo h v l) : (blk v = 0 ∨ lo < blk v) ∧ blk v ≤ h.n := by
  rcases ho with ⟨rfl, _⟩ | ⟨b, g, h1, h2, h3, rfl | rfl⟩
  · exact ⟨.inl rfl, Nat.zero_le _⟩
  · exact ⟨.inr (Nat.succ_le_succ h1), h2⟩
  · exact ⟨.inr (Nat.succ_le_succ h1), h2⟩
theorem Ow.fr {lo : Nat} {h h' : H} {v : AV} {l : List UInt8} (ho : Ow lo h v l) {S : Nat → Prop} (x : Fr S h h') (hs : blk v = 0 ∨ ¬ S (blk v)) : Ow lo h' v l := by
  have := x.1
  rcases ho with ⟨rfl, rfl⟩ | ⟨b, g, h1, h2, h3, h4⟩
  · exact .inl ⟨rfl, rfl⟩
  · have hb : ¬ S (b + 1) := by rcases h4 with rfl | rfl <;> exact hs.resolve_left (by simp [blk_sl])
    exact .inr ⟨b, g, h1, by omega, by rw [x.2 b h2 hb]; exact h3, h4⟩
/-- Bytes appended to a row of its own: the frame. -/
theorem Ow.appF {lo : Nat} {h : H} {x y : AV} {l m : List UInt8} (hx : Ow lo h x l) (hy : Bs h y m) (hlo : lo ≤ h.n) (hl : l.length + m.length ≤ maxRow) :
    ∃ v h', append h 5 1 1 x y = some (.val v h') ∧ Ow lo h' v (l ++ m) ∧ Fr (fun s => s = blk x) h h' ∧ Cok v := by
  obtain ⟨v, h', e, o, x2, k⟩ := Ow.app hx hy hlo hl
  refine ⟨v, h', e, o, ⟨x2.1, fun b hb hs => k b hb ?_⟩, o.cok⟩
  rintro g n c rfl
  exact hs rfl

/-- Between two places; from one on; up to one. -/
theorem Bs.subN {h : H} {v : AV} {l : List UInt8} (hb : Bs h v l) (hok : Cok v) {ei ej : Int} (i j : Nat) (hei : ei = i) (hej : ej = j) (hi : i ≤ j) (hj : j ≤ l.length) :
    ∃ v', (∀ {x y z : IX} {ρ : IX → AV}, ρ x = v → ρ y = .int .i64 ei → ρ z = .int .i64 ej → iop (.slL 1 x (some y) (some z) none) ρ h = some (.val v' h)) ∧ Bs h v' ((l.take j).drop i) ∧ Cok v' := by
  subst hei; subst hej
  obtain ⟨v', a, b, c⟩ := hb.sub hok hi hj
  exact ⟨v', fun hx hy hz => a _ _ _ _ hx hy hz, b, c⟩
theorem Bs.fromN {h : H} {v : AV} {l : List UInt8} (hb : Bs h v l) (hok : Cok v) {ei : Int} (i : Nat) (hei : ei = i) (hi : i ≤ l.length) :
    ∃ v', (∀ {x y : IX} {ρ : IX → AV}, ρ x = v → ρ y = .int .i64 ei → iop (.slL 1 x (some y) none none) ρ h = some (.val v' h)) ∧ Bs h v' (l.drop i) ∧ Cok v' := by
  subst hei
  obtain ⟨v', a, b, c, _⟩ := hb.drop hok hi
  exact ⟨v', fun hx hy => a _ _ _ hx hy, b, fun a n q e => (c a n q e).2⟩
theorem Bs.upN {h : H} {v : AV} {l : List UInt8} (hb : Bs h v l) (hok : Cok v) {ej : Int} (j : Nat) (hej : ej = j) (hj : j ≤ l.length) :
    ∃ v', (∀ {x z : IX} {ρ : IX → AV}, ρ x = v → ρ z = .int .i64 ej → iop (.slL 1 x none (some z) none) ρ h = some (.val v' h)) ∧ Bs h v' (l.take j) ∧ Cok v' := by
  subst hej
  obtain ⟨v', a, b, c⟩ := hb.take hok hj
  exact ⟨v', fun hx hy => a _ _ _ hx hy, b, c⟩
/-- Two ways, kept apart: opened only where it is asked. -/
def Dj (p : Prop) : Prop := p
theorem Dj.e {p : Prop} (d : Dj p) : p := d
theorem Bs.bq {h : H} {v : AV} {l : List UInt8} (hb : Bs h v l) : blk v ≤ h.n := hb.bd
theorem Ow.bq {lo : Nat} {h : H} {v : AV} {l : List UInt8} (ho : Ow lo h v l) : Dj (blk v = 0 ∨ lo < blk v) ∧ blk v ≤ h.n := ho.bd
theorem Bs.nil0 {h : H} : Bs h .nils [] := .inl ⟨rfl, rfl⟩
theorem Ow.nil0 {lo : Nat} {h : H} : Ow lo h .nils [] := .inl ⟨rfl, rfl⟩
/-! A block as it is -/
def Pt (h : H) (b : Nat) (B : Blk) : Prop := b < h.n ∧ h.get b = some B
theorem Pt.fr {h h' : H} {b : Nat} {B : Blk} (p : Pt h b B) {S : Nat → Prop} (x : Fr S h h') (hs : ¬ S (b + 1)) : Pt h' b B := ⟨Nat.lt_of_lt_of_le p.1 x.1, by rw [x.2 b p.1 hs]; exact p.2⟩
theorem Pt.bd {h : H} {b : Nat} {B : Blk} (p : Pt h b B) : b < h.n := p.1

/-- What is read of a block. -/
def ldB (B : Blk) (a : AA) (ag : Option Nat) : Option AV := match B with
  | .cells g _ c k ro => if g == a.g && (!ro || decide (k ≤ a.o)) then (match ag with
    | none => getL c a.o
    | some n => (cut c a.o n).map .agg) else none
  | _ => none
theorem Pt.ld {h : H} {b : Nat} {B : Blk} (p : Pt h b B) {a : AA} {ag : Option Nat} {v : AV} (hb : a.b = b) (hv : ldB B a ag = some v) : h.ldg a ag = some v := by
  subst hb
  unfold ldB at hv
  split at hv
  · rename_i g e c k ro
    split at hv
    · rename_i hc
      cases ag <;> simp only [H.ldg, H.ld, H.ldn, H.row, p.2, hc, if_true]
      · exact hv
      · exact hv
    · cases hv
  · cases hv
theorem iop_ldP {h : H} {b : Nat} {B : Blk} (p : Pt h b B) {a : AA} {ag : Option Nat} {v : AV} {x : IX} {ρ : IX → AV} (hx : ρ x = .ptr a) (hb : a.b = b) (hv : ldB B a ag = some v) : iop (.ld ag x) ρ h = some (.val v h) := iop_ld hx (p.ld hb hv)
theorem rd_ldP {h : H} {b : Nat} {B : Blk} (p : Pt h b B) {a : AA} {ag : Option Nat} {v : AV} (hb : a.b = b) (hv : ldB B a ag = some v) : readsAs (.ld ag (.c (.ptr a))) v h = true := rd_ld (p.ld hb hv)

/-- Cells are written. -/
theorem Pt.st {h : H} {b g e : Nat} {c : List AV} (p : Pt h b (.cells g e c 0 false)) (o : Nat) (vs : List AV) (h1 : o + vs.length ≤ c.length) (h2 : vs.all AV.one = true) :
    ∃ h', h.st ⟨b, g, o⟩ vs = some h' ∧ Pt h' b (.cells g e (putAt c o vs) 0 false) ∧ Fr (fun s => s = b + 1) h h' ∧ h'.n = h.n := by
  refine ⟨h.set b (.cells g e (putAt c o vs) 0 false), ?_, ⟨p.1, h.get_set _ _⟩, ⟨Nat.le_refl _, fun k hk hs => h.get_set_ne _ k _ (fun e => hs (by rw [e]))⟩, rfl⟩
  unfold H.st
  simp only [p.2]
  rw [if_pos (by simp [h1, List.all_eq_true.1 h2]; exact fun x hx => List.all_eq_true.1 h2 x hx)]
theorem iop_stP {x y : IX} {ρ : IX → AV} {h h' : H} {n : Nat} {a : AA} {v : AV} {vs : List AV} (hx : ρ x = .ptr a) (hy : ρ y = v) (hv : v.cells = vs) (hn : vs.length = n) (hs : h.st a vs = some h') : iop (.st n x y) ρ h = some (.val .undef h') := by
  simp only [iop, hx, hy, hv, hn, BEq.rfl, if_true, hs, Option.map_some]
/-- A block is made. -/
theorem pt_new (h : H) (e : Nat) (cs : List AV) (h1 : cs.all AV.one = true) : ∃ h', (∀ {x : IX} {ρ : IX → AV} {v : AV}, ρ x = v → v.cells = cs → iop (.new e x) ρ h = some (.val (.ptr ⟨h.n, 0, 0⟩) h')) ∧ Pt h' h.n (.cells 0 e cs 0 false) ∧ Fr No h h' ∧ h'.n = h.n + 1 := by
  refine ⟨h.new (.cells 0 e cs 0 false), ?_, ⟨Nat.lt_succ_self _, h.get_new _⟩, (Ext.new h _).fr, rfl⟩
  intro x ρ v hx hv
  subst hx
  simp only [iop, hv, h1, if_true]
/-- A row is written out. -/
theorem bsl_new (h : H) (e : Nat) (cs : List AV) (h1 : cs.all AV.one = true) : ∃ h', (∀ {z : List AV} {n : Nat} {ps : List (Nat × Nat × IX)} {ρ : IX → AV}, fillL z (ps.map fun p => (p.1, p.2.1, ρ p.2.2)) = some cs → iop (.bsl e z n ps) ρ h = some (.val (.sl ⟨h.n, 0, 0⟩ n (.ex n)) h')) ∧ Pt h' h.n (.cells 0 e cs 0 false) ∧ Fr No h h' ∧ h'.n = h.n + 1 := by
  refine ⟨h.new (.cells 0 e cs 0 false), ?_, ⟨Nat.lt_succ_self _, h.get_new _⟩, (Ext.new h _).fr, rfl⟩
  intro z n ps ρ hf
  simp only [iop, hf, h1, if_true]
theorem iop_buildP {z : List AV} {ps : List (Nat × Nat × IX)} {ρ : IX → AV} {h : H} {cs : List AV} (hf : fillL z (ps.map fun p => (p.1, p.2.1, ρ p.2.2)) = some cs) : iop (.build z ps) ρ h = some (.val (.agg cs) h) := by
  simp only [iop, hf, Option.map_some]
/-- The first of a filling. -/
theorem fill_cons {c : List AV} {off sz : Nat} {x : IX} {ps : List (Nat × Nat × IX)} {ρ : IX → AV} {v : AV} {vs cs : List AV} (hx : ρ x = v) (hv : v.cells = vs) (hl : (vs.length == sz && decide (off + sz ≤ c.length)) = true) (hf : fillL (putAt c off vs) (ps.map fun p => (p.1, p.2.1, ρ p.2.2)) = some cs) :
    fillL c (((off, sz, x) :: ps).map fun p => (p.1, p.2.1, ρ p.2.2)) = some cs := by
  simp only [List.map_cons, fillL, hx, hv]
  rw [if_pos hl]
  exact hf

/-! Numbers held against each other: both ways at once -/
section
variable {F : FTab}
theorem Wo.cmp {o : IOper} {op : BinOp} {x y : IX} {l : List IOper} {ts : List AV} {h : H} {Q : List AV → H → Prop} {k : IntKind} {a b : Int} (p : Prop) [Decidable p] (ho : o.op = .bin op x y) (hg : wanted o.guard ts = true) (hx : ev ts x = .int k a) (hy : ev ts y = .int k b) (hop : op = .lss ∨ op = .leq ∨ op = .gtr ∨ op = .geq ∨ op = .eql ∨ op = .neq) (e : binInt op k a b = some (.bool (decide p)))
    (h1 : p → Wo F l (put ts o.dst (.bool true)) h Q) (h2 : ¬p → Wo F l (put ts o.dst (.bool false)) h Q) : Wo F (o :: l) ts h Q := by
  have hi : iop o.op (ev ts) h = some (.val (.bool (decide p)) h) := by
    rw [ho]
    rcases hop with rfl | rfl | rfl | rfl | rfl | rfl <;> simp [iop, binop, hx, hy, e]
  refine Wo.val _ _ hg hi ?_
  by_cases hp : p
  · rw [decide_eq_true hp]; exact h1 hp
  · rw [decide_eq_false hp]; exact h2 hp
theorem Wo.cmpN {o : IOper} {op : BinOp} {x y : IX} {l : List IOper} {ts : List AV} {h : H} {Q : List AV → H → Prop} {k : IntKind} {a b : Int} (p : Prop) [Decidable p] (ho : o.op = .bin op x y) (hg : wanted o.guard ts = true) (hx : ev ts x = .int k a) (hy : ev ts y = .int k b) (hop : op = .lss ∨ op = .leq ∨ op = .gtr ∨ op = .geq ∨ op = .eql ∨ op = .neq) (e : binInt op k a b = some (.bool (!decide p)))
    (h1 : p → Wo F l (put ts o.dst (.bool false)) h Q) (h2 : ¬p → Wo F l (put ts o.dst (.bool true)) h Q) : Wo F (o :: l) ts h Q := by
  have hi : iop o.op (ev ts) h = some (.val (.bool (!decide p)) h) := by
    rw [ho]
    rcases hop with rfl | rfl | rfl | rfl | rfl | rfl <;> simp [iop, binop, hx, hy, e]
  refine Wo.val _ _ hg hi ?_
  by_cases hp : p
  · rw [decide_eq_true hp]; exact h1 hp
  · rw [decide_eq_false hp]; exact h2 hp
theorem Wd.cmp {o : IOper} {id mask : Nat} {op : BinOp} {x y : IX} {l : List DOper} {ts : List AV} {h : H} {pe : Pend} {Q : List AV → H → Prop} {k : IntKind} {a b : Int} (p : Prop) [Decidable p] (ho : o.op = .bin op x y) (hg : wanted o.guard ts = true) (hx : ev ts x = .int k a) (hy : ev ts y = .int k b) (hop : op = .lss ∨ op = .leq ∨ op = .gtr ∨ op = .geq ∨ op = .eql ∨ op = .neq) (e : binInt op k a b = some (.bool (decide p)))
    (h1 : p → Wd F l (put ts o.dst (.bool true)) h pe Q) (h2 : ¬p → Wd F l (put ts o.dst (.bool false)) h pe Q) : Wd F (⟨o, false, id, mask⟩ :: l) ts h pe Q := by
  have hi : iop o.op (ev ts) h = some (.val (.bool (decide p)) h) := by
    rw [ho]
    rcases hop with rfl | rfl | rfl | rfl | rfl | rfl <;> simp [iop, binop, hx, hy, e]
  refine Wd.make _ _ hg (by rw [ho]; rfl) hi ?_
  by_cases hp : p
  · rw [decide_eq_true hp]; exact h1 hp
  · rw [decide_eq_false hp]; exact h2 hp
theorem Wd.cmpN {o : IOper} {id mask : Nat} {op : BinOp} {x y : IX} {l : List DOper} {ts : List AV} {h : H} {pe : Pend} {Q : List AV → H → Prop} {k : IntKind} {a b : Int} (p : Prop) [Decidable p] (ho : o.op = .bin op x y) (hg : wanted o.guard ts = true) (hx : ev ts x = .int k a) (hy : ev ts y = .int k b) (hop : op = .lss ∨ op = .leq ∨ op = .gtr ∨ op = .geq ∨ op = .eql ∨ op = .neq) (e : binInt op k a b = some (.bool (!decide p)))
    (h1 : p → Wd F l (put ts o.dst (.bool false)) h pe Q) (h2 : ¬p → Wd F l (put ts o.dst (.bool true)) h pe Q) : Wd F (⟨o, false, id, mask⟩ :: l) ts h pe Q := by
  have hi : iop o.op (ev ts) h = some (.val (.bool (!decide p)) h) := by
    rw [ho]
    rcases hop with rfl | rfl | rfl | rfl | rfl | rfl <;> simp [iop, binop, hx, hy, e]
  refine Wd.make _ _ hg (by rw [ho]; rfl) hi ?_
  by_cases hp : p
  · rw [decide_eq_true hp]; exact h1 hp
  · rw [decide_eq_false hp]; exact h2 hp
theorem Wo.cmpS {o : IOper} {x y : IX} {l : List IOper} {ts : List AV} {h : H} {Q : List AV → H → Prop} {a b : List UInt8} (ho : o.op = .bin .eql x y) (hg : wanted o.guard ts = true) (hx : ev ts x = .str a) (hy : ev ts y = .str b)
    (h1 : a = b → Wo F l (put ts o.dst (.bool true)) h Q) (h2 : a ≠ b → Wo F l (put ts o.dst (.bool false)) h Q) : Wo F (o :: l) ts h Q := by
  have hi : iop o.op (ev ts) h = some (.val (.bool (a == b)) h) := by rw [ho]; simp [iop, binop, binStr, hx, hy]
  refine Wo.val _ _ hg hi ?_
  by_cases hp : a = b
  · rw [show (a == b) = true by simp [hp]]; exact h1 hp
  · rw [show (a == b) = false by simp [hp]]; exact h2 hp
theorem Wo.cmpSN {o : IOper} {x y : IX} {l : List IOper} {ts : List AV} {h : H} {Q : List AV → H → Prop} {a b : List UInt8} (ho : o.op = .bin .neq x y) (hg : wanted o.guard ts = true) (hx : ev ts x = .str a) (hy : ev ts y = .str b)
    (h1 : a = b → Wo F l (put ts o.dst (.bool false)) h Q) (h2 : a ≠ b → Wo F l (put ts o.dst (.bool true)) h Q) : Wo F (o :: l) ts h Q := by
  have hi : iop o.op (ev ts) h = some (.val (.bool (!(a == b))) h) := by rw [ho]; simp [iop, binop, binStr, hx, hy]
  refine Wo.val _ _ hg hi ?_
  by_cases hp : a = b
  · rw [show (!(a == b)) = false by simp [hp]]; exact h1 hp
  · rw [show (!(a == b)) = true by simp [hp]]; exact h2 hp
theorem Wd.cmpS {o : IOper} {id mask : Nat} {x y : IX} {l : List DOper} {ts : List AV} {h : H} {pe : Pend} {Q : List AV → H → Prop} {a b : List UInt8} (ho : o.op = .bin .eql x y) (hg : wanted o.guard ts = true) (hx : ev ts x = .str a) (hy : ev ts y = .str b)
    (h1 : a = b → Wd F l (put ts o.dst (.bool true)) h pe Q) (h2 : a ≠ b → Wd F l (put ts o.dst (.bool false)) h pe Q) : Wd F (⟨o, false, id, mask⟩ :: l) ts h pe Q := by
  have hi : iop o.op (ev ts) h = some (.val (.bool (a == b)) h) := by rw [ho]; simp [iop, binop, binStr, hx, hy]
  refine Wd.make _ _ hg (by rw [ho]; rfl) hi ?_
  by_cases hp : a = b
  · rw [show (a == b) = true by simp [hp]]; exact h1 hp
  · rw [show (a == b) = false by simp [hp]]; exact h2 hp
theorem Wd.cmpSN {o : IOper} {id mask : Nat} {x y : IX} {l : List DOper} {ts : List AV} {h : H} {pe : Pend} {Q : List AV → H → Prop} {a b : List UInt8} (ho : o.op = .bin .neq x y) (hg : wanted o.guard ts = true) (hx : ev ts x = .str a) (hy : ev ts y = .str b)
    (h1 : a = b → Wd F l (put ts o.dst (.bool false)) h pe Q) (h2 : a ≠ b → Wd F l (put ts o.dst (.bool true)) h pe Q) : Wd F (⟨o, false, id, mask⟩ :: l) ts h pe Q := by
  have hi : iop o.op (ev ts) h = some (.val (.bool (!(a == b))) h) := by rw [ho]; simp [iop, binop, binStr, hx, hy]
  refine Wd.make _ _ hg (by rw [ho]; rfl) hi ?_
  by_cases hp : a = b
  · rw [show (!(a == b)) = false by simp [hp]]; exact h1 hp
  · rw [show (!(a == b)) = true by simp [hp]]; exact h2 hp
theorem Wp.condB {x : IX} {a b : IC} {s : St} {Q : Ex → St → Prop} (c : Bool) (hx : ev s.1 x = .bool c) (h1 : c = true → Wp F a s Q) (h2 : c = false → Wp F b s Q) : Wp F (.cond x a b) s Q := by
  refine Wp.cond c hx ?_
  cases c with
  | true => exact h1 rfl
  | false => exact h2 rfl
theorem Wo.boolS {b : Bool} {l : List IOper} {ts : List AV} {d : Option Nat} {h : H} {Q : List AV → H → Prop} (h1 : b = true → Wo F l (put ts d (.bool true)) h Q) (h2 : b = false → Wo F l (put ts d (.bool false)) h Q) : Wo F l (put ts d (.bool b)) h Q := by
  cases b
  · exact h2 rfl
  · exact h1 rfl
theorem Wd.boolS {b : Bool} {l : List DOper} {ts : List AV} {d : Option Nat} {h : H} {pe : Pend} {Q : List AV → H → Prop} (h1 : b = true → Wd F l (put ts d (.bool true)) h pe Q) (h2 : b = false → Wd F l (put ts d (.bool false)) h pe Q) : Wd F l (put ts d (.bool b)) h pe Q := by
  cases b
  · exact h2 rfl
  · exact h1 rfl
theorem iop_arith {op : BinOp} {x y : IX} {ρ : IX → AV} {h : H} {k : IntKind} {a b c : Int} (hx : ρ x = .int k a) (hy : ρ y = .int k b) (hop : op ≠ .shl ∧ op ≠ .shr) (e : binInt op k a b = some (.int k c)) : iop (.bin op x y) ρ h = some (.val (.int k c) h) := by
  have : binop op (.int k a) (.int k b) = some (.int k c) := by
    unfold binop
    cases op <;> simp_all
  simp only [iop, hx, hy, this, Option.map_some]
end

/-- The first of two that is not 0. -/
def orI (a b : Int) : Int := if a = 0 then b else a
theorem orI_zero {a b : Int} : orI a b = 0 ↔ a = 0 ∧ b = 0 := by unfold orI; split <;> omega
theorem orI_fst {a b : Int} (h : a = 0) : orI a b = b := if_pos h
theorem orI_snd {a b : Int} (h : ¬ a = 0) : orI a b = a := if_neg h
theorem iop_iaN {x y : IX} {ρ : IX → AV} {h : H} {a : AA} {n : Nat} {c : Cp} {s i : Nat} {ie : Int} (hx : ρ x = .sl a n c) (hy : ρ y = .int .i64 ie) (hi : ie = i) (hlt : i < n) : iop (.ia s x y) ρ h = some (.val (.ptr ⟨a.b, a.g, a.o + i * s⟩) h) := by
  subst hi
  simp only [iop, hx, hy, asI]
  rw [if_pos (by simp; omega)]
  rfl
theorem fit_kind (k : IntKind) (x : Int) (h1 : k.min ≤ x) (h2 : x ≤ k.max) : k.wrap x = x := by
  cases k <;> simp [IntKind.wrap, IntKind.bits, IntKind.signed, IntKind.min, IntKind.max] at * <;> omega
theorem bin_add (k : IntKind) {a b : Int} (h1 : k.min ≤ a + b) (h2 : a + b ≤ k.max) : binInt .add k a b = some (.int k (a + b)) := by simp only [binInt, fit_kind k _ h1 h2]
theorem bin_sub (k : IntKind) {a b : Int} (h1 : k.min ≤ a - b) (h2 : a - b ≤ k.max) : binInt .sub k a b = some (.int k (a - b)) := by simp only [binInt, fit_kind k _ h1 h2]
theorem bin_mul (k : IntKind) {a b : Int} (h1 : k.min ≤ a * b) (h2 : a * b ≤ k.max) : binInt .mul k a b = some (.int k (a * b)) := by simp only [binInt, fit_kind k _ h1 h2]
theorem min_i8 : IntKind.i8.min = -128 := rfl
theorem max_i8 : IntKind.i8.max = 127 := rfl
theorem min_i16 : IntKind.i16.min = -32768 := rfl
theorem max_i16 : IntKind.i16.max = 32767 := rfl
theorem min_i32 : IntKind.i32.min = -2147483648 := rfl
theorem max_i32 : IntKind.i32.max = 2147483647 := rfl
theorem min_i64 : IntKind.i64.min = -9223372036854775808 := rfl
theorem max_i64 : IntKind.i64.max = 9223372036854775807 := rfl
theorem min_u8 : IntKind.u8.min = 0 := rfl
theorem max_u8 : IntKind.u8.max = 255 := rfl
theorem min_u16 : IntKind.u16.min = 0 := rfl
theorem max_u16 : IntKind.u16.max = 65535 := rfl
theorem min_u32 : IntKind.u32.min = 0 := rfl
theorem max_u32 : IntKind.u32.max = 4294967295 := rfl
theorem min_u64 : IntKind.u64.min = 0 := rfl
theorem max_u64 : IntKind.u64.max = 18446744073709551615 := rfl
theorem res_nil {h : H} {ts : List AV} : resOf h ts [] = some [] := rfl
theorem res_tmp {h : H} {ts : List AV} {t : Nat} {v : AV} {vs : List AV} {r : List (Nat × Option (Option Nat))} (h1 : (getL ts t).getD .undef = v) (h2 : resOf h ts r = some vs) : resOf h ts ((t, none) :: r) = some (v :: vs) := by simp [resOf, h1, h2]
theorem res_cell {h : H} {ts : List AV} {t : Nat} {ag : Option Nat} {a : AA} {v : AV} {vs : List AV} {r : List (Nat × Option (Option Nat))} (h1 : getL ts t = some (.ptr a)) (hv : h.ldg a ag = some v) (h2 : resOf h ts r = some vs) : resOf h ts ((t, some ag) :: r) = some (v :: vs) := by
  have e : iop (.ld ag (.t t)) (ev ts) h = some (.val v h) := iop_ld (a := a) (by simp [ev, h1]) hv
  simp [resOf, e, h2]
theorem ret_one {h : H} {ts : List AV} {v : AV} {r : List (Nat × Option (Option Nat))} (hr : resOf h ts r = some [v]) : retV h ts r = some v := by simp [retV, hr]
theorem ret_many {h : H} {ts : List AV} {vs : List AV} {r : List (Nat × Option (Option Nat))} (hr : resOf h ts r = some vs) (hl : (vs.length == 1) = false) : retV h ts r = some (.tup vs) := by
  simp only [retV, hr]
  split
  · rename_i e
    simp only [Option.some.injEq] at e
    rw [e] at hl
    simp at hl
  · rename_i e
    simp only [Option.some.injEq] at e
    rw [e]
  · rename_i e; cases e
theorem Ow.parts {lo : Nat} {h : H} {v : AV} {l : List UInt8} (ho : Ow lo h v l) : v.cells = [v] ∧ v.one = true ∧ isStrV v = false := ho.bs.parts
end Go.Det
