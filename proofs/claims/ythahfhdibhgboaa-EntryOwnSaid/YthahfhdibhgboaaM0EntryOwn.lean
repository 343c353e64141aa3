/- Texts of the proof, one behind the other (DetCore, DetRel, DetMem, DetComp, DetOpsA, DetOpsB, DetOpsC, DetOpsD, DetOpsE, DetOps, DetStep, DetCode). -/
import Derived.Orders
import Derived.Below
import Derived.Laws.CopyRow
import Derived.Laws.Entries
import Derived.ChangeKeysEq
import Derived.Laws.StructEq
import Derived.Deep.AppendSrc
import Derived.Laws.BytesString
import Derived.IntWalk
import Derived.Deep.DeepAppendWide
import Derived.Scope
/- The deterministic machine: values, memory and operations of a machine that draws nothing (no order of evaluation, no capacity), in which a Go function of the given program is run; that the real machine follows it is shown in the texts behind this one. -/
set_option linter.unusedVariables false
set_option linter.unusedSimpArgs false
set_option linter.unusedSectionVars false
namespace Go.Det

/-- An address: block, its state (an append that may move a row raises it), place. -/
structure AA where
  b : Nat
  g : Nat
  o : Nat
  deriving DecidableEq, Repr, Inhabited

/-- A capacity: known, or open (what an append left), with the cells of an element. -/
inductive Cp where
  | ex (n : Nat)
  | op (e : Nat)
  deriving DecidableEq, Repr, Inhabited

inductive AV where
  | bool (b : Bool)
  | int (k : IntKind) (n : Int)
  | str (s : List UInt8)
  | nilp
  | ptr (a : AA)
  | nils
  | sl (a : AA) (n : Nat) (c : Cp)
  | nilm
  | map (r : Nat)
  | nilf
  | fn (f : Fn) (first captured : List AV)
  | nili
  | ifc (t : TypeId) (v : AV)
  | agg (cs : List AV)
  | tup (vs : List AV)
  deriving Inhabited, Repr

def AV.undef : AV := .tup []

def AV.cells : AV → List AV
  | .agg cs => cs
  | v => [v]

def AV.one : AV → Bool
  | .agg _ => false
  | .tup _ => false
  | _ => true

inductive Blk where
  | cells (g : Nat) (e : TypeId) (c : List AV) (fz : Nat) (ro : Bool)
  | map (es : List (AV × AV × Nat)) (clock : Nat)
  | iter (s : List UInt8) (pos : Nat)
  deriving Inhabited, Repr

/-- A tree of blocks. -/
inductive Tr where
  | leaf
  | node (v : Option Blk) (l r : Tr)
  deriving Inhabited, Repr

def Tr.get : Tr → Nat → Option Blk
  | .leaf, _ => none
  | .node v l r, i => match i with
    | 0 => v
    | j + 1 => if j % 2 == 0 then l.get (j / 2) else r.get (j / 2)

def Tr.setF : Nat → Tr → Nat → Blk → Tr
  | 0, t, _, _ => t
  | f + 1, t, i, x =>
    let (v, l, r) := match t with | .leaf => (none, Tr.leaf, Tr.leaf) | .node v l r => (v, l, r)
    match i with
    | 0 => .node (some x) l r
    | j + 1 => if j % 2 == 0 then .node v (setF f l (j / 2) x) r else .node v l (setF f r (j / 2) x)

structure H where
  n : Nat
  t : Tr
  deriving Inhabited, Repr

def H.get (h : H) (b : Nat) : Option Blk := h.t.get b
def H.set (h : H) (b : Nat) (x : Blk) : H := { h with t := Tr.setF (b + 1) h.t b x }
def H.new (h : H) (x : Blk) : H := { n := h.n + 1, t := Tr.setF (h.n + 1) h.t h.n x }

/-- How values of a type are held against each other. -/
inductive EqD where
  | bo
  | num
  | str
  | ptr
  | sl
  | map
  | fn
  | ifc
  | st (fs : List (Nat × Option Nat × EqD))
  | arr (n sz : Nat) (ag : Bool) (d : EqD)
  deriving Inhabited, Repr

inductive IX where
  | t (n : Nat)
  | c (v : AV)
  | g (n : Nat)
  deriving Inhabited, Repr

inductive IOp where
  | mv (x : IX)
  | pick (c a b : IX)
  | new (e : TypeId) (x : IX)
  | build (z : List AV) (ps : List (Nat × Nat × IX))
  | bsl (e : TypeId) (z : List AV) (n : Nat) (ps : List (Nat × Nat × IX))
  | ld (ag : Option Nat) (x : IX)
  | st (n : Nat) (a v : IX)
  | nilck (x : IX)
  | bin (op : BinOp) (x y : IX)
  | eq (d : EqD) (neg lit : Bool) (x y : IX)
  | un (op : UnOp) (x : IX)
  | cvI (k : IntKind) (x : IX)
  | cvSB (e : TypeId) (x : IX)
  | cvBS (x : IX)
  | cvSS (x : IX)
  | cvIS (x : IX)
  | cvBB (x : IX)
  | mkI (t : TypeId) (x : IX)
  | mkF (f : Fn) (first cap : List IX)
  | mkM
  | mkS (e : TypeId) (z : List AV) (bytes : Nat) (l c : IX)
  | slS (x : IX) (lo hi : Option IX)
  | slL (sz : Nat) (x : IX) (lo hi mx : Option IX)
  | slA (n sz : Nat) (x : IX) (lo hi mx : Option IX)
  | fa (off : Nat) (x : IX)
  | fd (off : Nat) (sz : Option Nat) (x : IX)
  | ia (sz : Nat) (x i : IX)
  | iaA (n sz : Nat) (x i : IX)
  | ixS (x i : IX)
  | ixA (n sz : Nat) (ag : Bool) (x i : IX)
  | ext (x : IX) (i : Nat)
  | rng (x : IX)
  | next (x : IX)
  | sap (n : Nat) (x : IX)
  | call (f : FuncId) (args : List IX)
  | callv (f : IX) (args : List IX)
  | app (e sz bytes : Nat) (st : Bool) (x y : IX)
  | len (st : Bool) (x : IX)
  | copy (sz : Nat) (x y : IX)
  | min (x y : IX)
  | max (x y : IX)
  | look (d : EqD) (z : AV) (ok : Bool) (x i : IX)
  | upd (d : EqD) (x k v : IX)
  | mlen (x : IX)
  | fail
  deriving Inhabited, Repr

structure IOper where
  dst : Option Nat
  op : IOp
  guard : Option (Nat × Bool)
  deriving Inhabited, Repr

/-- An operation of a region whose order is drawn: an act (it may write) or not, its place in the text, and those that stand ahead of it in every order. -/
structure DOper extends IOper where
  act : Bool
  id : Nat
  mask : Nat
  deriving Inhabited, Repr

inductive IC where
  | skip
  | region (ops : List IOper)
  | draw (ops : List DOper)
  | seq (a b : IC)
  | cond (x : IX) (a b : IC)
  | block (id : Nat) (a : IC)
  | loop (a : IC)
  | exit (id : Nat)
  | ret
  | scope (a : IC)
  | inS (a r : IC)
  | label (l : Nat)
  | goto (l : Nat)
  deriving Inhabited, Repr

/-- A function. 'known': one without parameters that is known to answer true and to leave what was there: it is not run. -/
structure IFunc where
  ntmps : Nat
  results : List (Nat × Option (Option Nat))
  body : IC
  known : Bool
  deriving Inhabited, Repr

/-! ### Memory -/

def getL {α : Type} : List α → Nat → Option α
  | [], _ => none
  | x :: _, 0 => some x
  | _ :: l, i + 1 => getL l i

def setL {α : Type} : List α → Nat → α → List α
  | [], _, _ => []
  | _ :: l, 0, v => v :: l
  | x :: l, i + 1, v => x :: setL l i v

/-- The n cells from a place on. -/
def cut {α : Type} (c : List α) (o n : Nat) : Option (List α) :=
  let d := c.drop o
  let r := d.take n
  if r.length == n then some r else none

def putAt {α : Type} : List α → Nat → List α → List α
  | c, 0, vs => vs ++ c.drop vs.length
  | x :: c, i + 1, vs => x :: putAt c i vs
  | [], _ + 1, _ => []

def H.row (h : H) (a : AA) : Option (List AV) :=
  match h.get a.b with
  | some (.cells g _ c k ro) => if g == a.g && (!ro || decide (k ≤ a.o)) then some c else none
  | _ => none

def H.ld (h : H) (a : AA) : Option AV :=
  match h.row a with
  | some c => getL c a.o
  | none => none

def H.ldn (h : H) (a : AA) (n : Nat) : Option (List AV) :=
  match h.row a with
  | some c => cut c a.o n
  | none => none

def H.ldg (h : H) (a : AA) : Option Nat → Option AV
  | none => h.ld a
  | some n => (h.ldn a n).map .agg

def H.st (h : H) (a : AA) (vs : List AV) : Option H :=
  match h.get a.b with
  | some (.cells g e c fz ro) =>
    if g == a.g && !ro && fz ≤ a.o && a.o + vs.length ≤ c.length && vs.all AV.one then some (h.set a.b (.cells g e (putAt c a.o vs) fz ro)) else none
  | _ => none

/-! ### Operations -/

inductive Ans where
  | val (v : AV) (h : H)
  | call (f : FuncId) (args : List AV)
  deriving Inhabited

def ev (ts : List AV) : IX → AV
  | .t n => (getL ts n).getD .undef
  | .c v => v
  | .g n => .ptr ⟨n, 0, 0⟩

def fillL : List AV → List (Nat × Nat × AV) → Option (List AV)
  | c, [] => some c
  | c, (off, sz, v) :: r => if v.cells.length == sz && off + sz ≤ c.length then fillL (putAt c off v.cells) r else none

def part (cs : List AV) (off : Nat) : Option Nat → Option AV
  | none => getL cs off
  | some n => some (.agg ((cs.drop off).take n))

def binInt (op : BinOp) (k : IntKind) (a b : Int) : Option AV :=
  match op with
  | .add => some (.int k (k.wrap (a + b)))
  | .sub => some (.int k (k.wrap (a - b)))
  | .mul => some (.int k (k.wrap (a * b)))
  | .quo => if b == 0 then none else some (.int k (k.wrap (a.tdiv b)))
  | .rem => if b == 0 then none else some (.int k (a.tmod b))
  | .and => some (.int k (k.wrap (BitVec.ofInt k.bits a &&& BitVec.ofInt k.bits b).toNat))
  | .or => some (.int k (k.wrap (BitVec.ofInt k.bits a ||| BitVec.ofInt k.bits b).toNat))
  | .xor => some (.int k (k.wrap (BitVec.ofInt k.bits a ^^^ BitVec.ofInt k.bits b).toNat))
  | .andNot => some (.int k (k.wrap (BitVec.ofInt k.bits a &&& ~~~(BitVec.ofInt k.bits b)).toNat))
  | .eql => some (.bool (a == b))
  | .neq => some (.bool (a != b))
  | .lss => some (.bool (a < b))
  | .leq => some (.bool (a ≤ b))
  | .gtr => some (.bool (a > b))
  | .geq => some (.bool (a ≥ b))
  | _ => none

def shInt (op : BinOp) (k : IntKind) (x y : Int) : Option AV :=
  if y < 0 then none else
  let n := min y.toNat k.bits
  match op with
  | .shl => some (.int k (k.wrap (x * 2 ^ n)))
  | .shr => some (.int k (x.fdiv (2 ^ n)))
  | _ => none

def binStr (op : BinOp) (x y : List UInt8) : Option AV :=
  match op with
  | .add => if x.length + y.length ≤ 9223372036854775807 then some (.str (x ++ y)) else none
  | .eql => some (.bool (x == y))
  | .neq => some (.bool (!(x == y)))
  | .lss => some (.bool (Op.bytesLess x y))
  | .leq => some (.bool (Op.bytesLess x y || x == y))
  | .gtr => some (.bool (!(Op.bytesLess x y || x == y)))
  | .geq => some (.bool (!Op.bytesLess x y))
  | _ => none

def binop (op : BinOp) (x y : AV) : Option AV :=
  match x, y with
  | .int k a, .int k' b => match op with
    | .shl | .shr => shInt op k a b
    | _ => if k = k' then binInt op k a b else none
  | .str a, .str b => binStr op a b
  | _, _ => none

def unop (op : UnOp) (x : AV) : Option AV :=
  match op, x with
  | .neg, .int k n => binInt .sub k 0 n
  | .xor, .int k n => binInt .xor k (if k.signed then -1 else k.max) n
  | .not, .bool b => some (.bool !b)
  | _, _ => none

mutual
def eqv : Nat → EqD → AV → AV → Option Bool
  | 0, _, _, _ => none
  | f + 1, d, x, y => match d, x, y with
    | .bo, .bool a, .bool b => some (a == b)
    | .num, .int k a, .int k' b => if k = k' then some (a == b) else none
    | .str, .str a, .str b => some (a == b)
    | .ptr, .nilp, .nilp => some true
    | .ptr, .nilp, .ptr _ => some false
    | .ptr, .ptr _, .nilp => some false
    | .ptr, .ptr a, .ptr b => if a.b == b.b && a.g == b.g then some (a.o == b.o) else none
    | .sl, .nils, .nils => some true
    | .sl, .nils, .sl .. => some false
    | .sl, .sl .., .nils => some false
    | .map, .nilm, .nilm => some true
    | .map, .nilm, .map _ => some false
    | .map, .map _, .nilm => some false
    | .fn, .nilf, .nilf => some true
    | .fn, .nilf, .fn .. => some false
    | .fn, .fn .., .nilf => some false
    | .ifc, .nili, .nili => some true
    | .ifc, .nili, .ifc .. => some false
    | .ifc, .ifc .., .nili => some false
    | .st fs, .agg xs, .agg ys => eqSt f fs xs ys
    | .arr n sz ag d, .agg xs, .agg ys => eqArr f d sz ag xs ys 0 n
    | _, _, _ => none
def eqSt : Nat → List (Nat × Option Nat × EqD) → List AV → List AV → Option Bool
  | 0, _, _, _ => none
  | f + 1, l, xs, ys => match l with
    | [] => some true
    | (off, sz, d) :: fs =>
      match part xs off sz, part ys off sz with
      | some a, some b => match eqv f d a b with
        | some true => eqSt f fs xs ys
        | r => r
      | _, _ => none
def eqArr : Nat → EqD → Nat → Bool → List AV → List AV → Nat → Nat → Option Bool
  | 0, _, _, _, _, _, _, _ => none
  | f + 1, d, sz, ag, xs, ys, i, n => match n with
    | 0 => some true
    | n + 1 =>
      match part xs (i * sz) (if ag then some sz else none), part ys (i * sz) (if ag then some sz else none) with
      | some a, some b => match eqv f d a b with
        | some true => eqArr f d sz ag xs ys (i + 1) n
        | r => r
      | _, _ => none
end


def bytesAV (s : List UInt8) : List AV := s.map fun b => .int .u8 b.toNat

def toBytes : List AV → Option (List UInt8)
  | [] => some []
  | .int .u8 n :: l => (toBytes l).map (UInt8.ofNat n.toNat :: ·)
  | _ => none

def asI : AV → Option Int
  | .int _ n => some n
  | _ => none

/-- low, high, most: bounds of a slice expression (most: what lies behind, if it is known). -/
def bounds (len : Nat) (cap : Option Nat) (lo hi mx : Option AV) : Option (Nat × Nat × Option Nat) :=
  let m : Option (Option Nat) := match mx with
    | none => some cap
    | some v => match asI v with
      | some i => if 0 ≤ i then (match cap with
        | some c => if i ≤ c then some (some i.toNat) else none
        | none => if i ≤ len then some (some i.toNat) else none) else none
      | none => none
  match m with
  | none => none
  | some m =>
    let h : Option Nat := match hi with
      | none => if mx.isSome then none else some len
      | some v => match asI v with
        | some i => if 0 ≤ i && i ≤ (m.getD len : Int) then some i.toNat else none
        | none => none
    match h with
    | none => none
    | some h =>
      match lo with
      | none => some (0, h, m)
      | some v => match asI v with
        | some i => if 0 ≤ i && i ≤ h then some (i.toNat, h, m) else none
        | none => none

def maxRow : Nat := 200000000000000
def capPos : Cp → Bool
  | .ex k => 0 < k
  | .op _ => true
/-- So many elements of so many bytes may be appended, however the row has grown. -/
def fits (k bytes : Nat) : Bool := k * bytes ≤ maxRow && bytes ≤ 1073741824
@[simp] theorem fits_one (k : Nat) : fits k 1 = decide (k ≤ maxRow) := by simp [fits]
theorem fits_ok {k b : Nat} (h : fits k b = true) : (k + k / 4 + 192) * b ≤ 281474976710656 := by
  have hm : maxRow = 200000000000000 := rfl
  simp only [fits, Bool.and_eq_true, decide_eq_true_eq] at h
  obtain ⟨h1, h2⟩ := h
  rw [hm] at h1
  have h3 : k / 4 * b ≤ 50000000000000 := by
    have h4 : 4 * (k / 4 * b) ≤ k * b := by rw [← Nat.mul_assoc]; exact Nat.mul_le_mul_right _ (by omega)
    omega
  rw [Nat.add_mul, Nat.add_mul]
  omega

def srcCells (h : H) (sz : Nat) : AV → Option (Nat × List AV)
  | .nils => some (0, [])
  | .sl a n _ => (h.ldn a (n * sz)).map (n, ·)
  | .str s => some (s.length, bytesAV s)
  | _ => none

def isStrV : AV → Bool
  | .str _ => true
  | _ => false

def srcLen : AV → Option Nat
  | .nils => some 0
  | .sl _ n _ => some n
  | .str s => some s.length
  | _ => none

def srcFirst (h : H) (sz k : Nat) : AV → Option (List AV)
  | .nils => some []
  | .sl a _ _ => h.ldn a (k * sz)
  | .str s => if sz == 1 then some (bytesAV (s.take k)) else none
  | _ => none

def append (h : H) (e sz bytes : Nat) (x y : AV) : Option Ans :=
  match srcCells h sz y with
  | none => none
  | some (m, new) =>
    match x with
    | .nils =>
      if m == 0 then some (.val .nils h)
      else if fits m bytes && m ≤ 9223372036854775807 && new.all AV.one then some (.val (.sl ⟨h.n, 0, 0⟩ m (.op sz)) (h.new (.cells 0 e new 0 false)))
      else none
    | .sl a n c =>
      if m == 0 then some (.val x h)
      else if !(fits (n + m) bytes && n + m ≤ 9223372036854775807 && new.all AV.one) then none
      else match c with
        | .ex k =>
          if k < n + m then match h.ldn a (n * sz) with
            | some old => some (.val (.sl ⟨h.n, 0, 0⟩ (n + m) (.op sz)) (h.new (.cells 0 e (old ++ new) 0 false)))
            | none => none
          else none
        | .op sz' =>
          match h.get a.b with
          | some (.cells g e' c' fz ro) =>
            if g == a.g && a.o == 0 && c'.length == n * sz && sz' == sz && e' == e && !ro && fz ≤ c'.length then
              some (.val (.sl ⟨a.b, g + 1, 0⟩ (n + m) (.op sz)) (h.set a.b (.cells (g + 1) e (c' ++ new) fz ro)))
            else none
          | _ => none
    | _ => none

def findKey (d : EqD) (k : AV) : List (AV × AV × Nat) → Nat → Option (Option (Nat × AV))
  | [], _ => some none
  | (k', v, _) :: es, i => match eqv 1 d k k' with
    | some true => some (some (i, v))
    | some false => findKey d k es (i + 1)
    | none => none

def iop (op : IOp) (ρ : IX → AV) (h : H) : Option Ans :=
  let ok (v : AV) : Option Ans := some (.val v h)
  let o (v : Option AV) : Option Ans := v.map (Ans.val · h)
  match op with
  | .mv x => ok (ρ x)
  | .pick c a b => match ρ c with
    | .bool true => ok (ρ a)
    | .bool false => ok (ρ b)
    | _ => none
  | .new e x => if (ρ x).cells.all AV.one then some (.val (.ptr ⟨h.n, 0, 0⟩) (h.new (.cells 0 e (ρ x).cells 0 false))) else none
  | .build z ps => (fillL z (ps.map fun p => (p.1, p.2.1, ρ p.2.2))).map fun cs => .val (.agg cs) h
  | .bsl e z n ps => match fillL z (ps.map fun p => (p.1, p.2.1, ρ p.2.2)) with
    | some cs => if cs.all AV.one then some (.val (.sl ⟨h.n, 0, 0⟩ n (.ex n)) (h.new (.cells 0 e cs 0 false))) else none
    | none => none
  | .ld ag x => match ρ x with
    | .ptr a => o (h.ldg a ag)
    | _ => none
  | .st n a v => match ρ a with
    | .ptr ad => if (ρ v).cells.length == n then (h.st ad (ρ v).cells).map fun h' => .val .undef h' else none
    | _ => none
  | .nilck x => match ρ x with
    | .nilp | .nili | .nilf => none
    | .fn (.method _) _ _ => none
    | v => ok v
  | .bin op x y => o (binop op (ρ x) (ρ y))
  | .eq d neg lit x y => match ρ x, ρ y with
    | .nili, .nili => if lit then (eqv 1000 d .nili .nili).map fun r => .val (.bool (r != neg)) h else none
    | a, b => (eqv 1000 d a b).map fun r => .val (.bool (r != neg)) h
  | .un op x => o (unop op (ρ x))
  | .cvI k x => (asI (ρ x)).map fun n => .val (.int k (k.wrap n)) h
  | .cvSB e x => match ρ x with
    | .str s => if s.length ≤ maxRow then some (.val (.sl ⟨h.n, 0, 0⟩ s.length (.op 1)) (h.new (.cells 0 e (bytesAV s) 0 false))) else none
    | _ => none
  | .cvBS x => match ρ x with
    | .nils => ok (.str [])
    | .sl a n _ => match h.ldn a n with
      | some cs => (toBytes cs).map fun s => .val (.str s) h
      | none => none
    | _ => none
  | .cvSS x => match ρ x with
    | .str s => ok (.str s)
    | _ => none
  | .cvIS x => (asI (ρ x)).map fun n => .val (.str (Utf8.encode n).toList) h
  | .cvBB x => match ρ x with
    | .sl a n c => match h.get a.b with
      | some (.cells g _ _ fz ro) => if g == a.g && !ro && fz == 0 && capPos c then ok (.sl a n c) else none
      | _ => none
    | _ => none
  | .mkI t x => ok (.ifc t (ρ x))
  | .mkF f a b => ok (.fn f (a.map ρ) (b.map ρ))
  | .mkM => some (.val (.map h.n) (h.new (.map [] 0)))
  | .mkS e z bytes l c => match asI (ρ l), asI (ρ c) with
    | some l, some c =>
      if 0 ≤ l && l ≤ c && bytes * c ≤ maxRow && c ≤ 9223372036854775807 then
        let n := l.toNat
        some (.val (.sl ⟨h.n, 0, 0⟩ n (if l == c then .ex n else .op z.length)) (h.new (.cells 0 e ((List.replicate n z).flatten) 0 false)))
      else none
    | _, _ => none
  | .slS x lo hi => match ρ x with
    | .str s => match bounds s.length (some s.length) (lo.map ρ) (hi.map ρ) none with
      | some (l, hh, _) => ok (.str ((s.take hh).drop l))
      | none => none
    | _ => none
  | .slL sz x lo hi mx => match ρ x with
    | .nils => match bounds 0 (some 0) (lo.map ρ) (hi.map ρ) (mx.map ρ) with
      | some _ => ok .nils
      | none => none
    | .sl a n c => match bounds n (match c with | .ex k => some k | .op _ => none) (lo.map ρ) (hi.map ρ) (mx.map ρ) with
      | some (l, hh, some m) =>
        if (match c with | .ex _ => true | .op e => e == sz && (0 < n || a.o == 0)) then ok (.sl (if m == l then a else ⟨a.b, a.g, a.o + l * sz⟩) (hh - l) (.ex (m - l))) else none
      | some (l, hh, none) => match c with
        | .op e => if e == sz then ok (.sl ⟨a.b, a.g, a.o + l * sz⟩ (hh - l) (.op e)) else none
        | _ => none
      | none => none
    | _ => none
  | .slA n sz x lo hi mx => match ρ x with
    | .ptr a => match bounds n (some n) (lo.map ρ) (hi.map ρ) (mx.map ρ) with
      | some (l, hh, some m) => ok (.sl (if m == l then a else ⟨a.b, a.g, a.o + l * sz⟩) (hh - l) (.ex (m - l)))
      | _ => none
    | _ => none
  | .fa off x => match ρ x with
    | .ptr a => ok (.ptr ⟨a.b, a.g, a.o + off⟩)
    | _ => none
  | .fd off sz x => match ρ x with
    | .agg cs => o (part cs off sz)
    | _ => none
  | .ia sz x i => match ρ x, asI (ρ i) with
    | .sl a n _, some i => if 0 ≤ i && i < n then ok (.ptr ⟨a.b, a.g, a.o + i.toNat * sz⟩) else none
    | _, _ => none
  | .iaA n sz x i => match ρ x, asI (ρ i) with
    | .ptr a, some i => if 0 ≤ i && i < n then ok (.ptr ⟨a.b, a.g, a.o + i.toNat * sz⟩) else none
    | _, _ => none
  | .ixS x i => match ρ x, asI (ρ i) with
    | .str s, some i => if 0 ≤ i then (getL s i.toNat).map fun b => .val (.int .u8 b.toNat) h else none
    | _, _ => none
  | .ixA n sz ag x i => match ρ x, asI (ρ i) with
    | .agg cs, some i => if 0 ≤ i && i < n then o (part cs (i.toNat * sz) (if ag then some sz else none)) else none
    | _, _ => none
  | .ext x i => match ρ x with
    | .tup vs => o (getL vs i)
    | _ => none
  | .rng x => match ρ x with
    | .str s => some (.val (.ptr ⟨h.n, 0, 0⟩) (h.new (.iter s 0)))
    | _ => none
  | .next x => match ρ x with
    | .ptr ⟨b, 0, 0⟩ => match h.get b with
      | some (.iter s pos) =>
        if pos < s.length then
          let (c, w) := Utf8.decode ⟨s.toArray⟩ pos
          some (.val (.tup [.bool true, .int .i64 pos, .int .i32 c]) (h.set b (.iter s (pos + w))))
        else ok (.tup [.bool false])
      | _ => none
    | _ => none
  | .sap n x => match ρ x with
    | .nils => if n == 0 then ok .nilp else none
    | .sl a m _ => if n ≤ m && 0 < n then ok (.ptr a) else none
    | _ => none
  | .call f args => some (.call f (args.map ρ))
  | .callv f args => match ρ f with
    | .fn (.func f) first captured => some (.call f (first ++ args.map ρ ++ captured))
    | _ => none
  | .app e sz bytes st x y => if isStrV (ρ y) == st then append h e sz bytes (ρ x) (ρ y) else none
  | .len st x => match ρ x with
    | .str s => if st then ok (.int .i64 s.length) else none
    | .nils => if st then none else ok (.int .i64 0)
    | .sl _ n _ => if st then none else ok (.int .i64 n)
    | _ => none
  | .copy sz x y => match ρ x, srcLen (ρ y) with
    | .nils, some _ => ok (.int .i64 0)
    | .sl a n _, some m => match srcFirst h sz (Nat.min m n) (ρ y) with
      | some cs => (h.st a cs).map fun h' => .val (.int .i64 (Nat.min m n : Nat)) h'
      | none => none
    | _, _ => none
  | .min x y => match ρ x, ρ y with
    | .int k a, .int _ b => ok (.int k (if b < a then b else a))
    | _, _ => none
  | .max x y => match ρ x, ρ y with
    | .int k a, .int _ b => ok (.int k (if b > a then b else a))
    | _, _ => none
  | .look d z okq x i => match ρ x with
    | .nilm => ok (if okq then .tup [z, .bool false] else z)
    | .map r => match h.get r with
      | some (.map es _) => match findKey d (ρ i) es 0 with
        | some (some (_, v)) => ok (if okq then .tup [v, .bool true] else v)
        | some none => ok (if okq then .tup [z, .bool false] else z)
        | none => none
      | _ => none
    | _ => none
  | .upd d x k v => match ρ x with
    | .map r => match h.get r with
      | some (.map es clock) => match findKey d (ρ k) es 0 with
        | some (some (i, _)) => match getL es i with
          | some (_, _, born) => some (.val .undef (h.set r (.map (setL es i (ρ k, ρ v, born)) clock)))
          | none => none
        | some none => some (.val .undef (h.set r (.map (es ++ [(ρ k, ρ v, clock)]) (clock + 1))))
        | none => none
      | _ => none
    | _ => none
  | .fail => none
  | .mlen x => match ρ x with
    | .nilm => ok (.int .i64 0)
    | .map r => match h.get r with
      | some (.map es _) => ok (.int .i64 es.length)
      | _ => none
    | _ => none

/-! ### Code -/

inductive Ex where
  | normal
  | exit (id : Nat)
  | goto (l : Nat)
  | ret
  deriving DecidableEq, Repr, Inhabited

def put (ts : List AV) (d : Option Nat) (v : AV) : List AV :=
  match d with
  | none => ts
  | some d => setL ts d v

def wanted (g : Option (Nat × Bool)) (ts : List AV) : Bool :=
  match g with
  | none => true
  | some (t, w) => match getL ts t with
    | some (.bool b) => b == w
    | _ => false

abbrev CallF := FuncId → List AV → H → Option (AV × H)

def oneOp (cf : CallF) (op : IOp) (ts : List AV) (h : H) : Option (AV × H) :=
  match iop op (ev ts) h with
  | some (.val v h') => some (v, h')
  | some (.call f args) => cf f args h
  | none => none

def runOps (cf : CallF) : List IOper → List AV → H → Option (List AV × H)
  | [], ts, h => some (ts, h)
  | o :: os, ts, h =>
    if wanted o.guard ts then
      match oneOp cf o.op ts h with
      | some (v, h') => runOps cf os (put ts o.dst v) h'
      | none => none
    else runOps cf os (put ts o.dst .undef) h

/-- The label's rest of a code. -/
def IC.find : IC → Nat → Option IC
  | .seq a b, l => match a.find l with
    | some r => some (.seq r b)
    | none => b.find l
  | .label l', l => if l' == l then some .skip else none
  | _, _ => none

def rounds {S : Type} (f : S → Option (Ex × S)) : Nat → S → Option (Ex × S)
  | 0, _ => none
  | n + 1, s => match f s with
    | some (.normal, s') => rounds f n s'
    | r => r

abbrev St := List AV × H

/-! A region whose order is drawn: it is run in the text's order; each reader that may stand elsewhere must read the same there. -/

mutual
def AV.same : AV → AV → Bool
  | .bool a, .bool b => a == b
  | .int k a, .int k' b => k == k' && a == b
  | .str a, .str b => a == b
  | .nilp, .nilp => true
  | .ptr a, .ptr b => a == b
  | .nils, .nils => true
  | .sl a n c, .sl b m d => a == b && n == m && c == d
  | .nilm, .nilm => true
  | .map a, .map b => a == b
  | .nilf, .nilf => true
  | .fn f a b, .fn g c d => f == g && sames a c && sames b d
  | .nili, .nili => true
  | .ifc t a, .ifc u b => t == u && AV.same a b
  | .agg a, .agg b => sames a b
  | .tup a, .tup b => sames a b
  | _, _ => false
def sames : List AV → List AV → Bool
  | [], [] => true
  | a :: x, b :: y => AV.same a b && sames x y
  | _, _ => false
end

/-- A reader, its operands laid in. -/
def rdOp (ρ : IX → AV) : IOp → Option IOp
  | .ld ag x => some (.ld ag (.c (ρ x)))
  | .cvBS x => some (.cvBS (.c (ρ x)))
  | .mlen x => some (.mlen (.c (ρ x)))
  | .look p z ok x i => some (.look p z ok (.c (ρ x)) (.c (ρ i)))
  | _ => none

def readsAs (op : IOp) (v : AV) (h : H) : Bool :=
  match iop op (ev []) h with
  | some (.val u _) => AV.same u v
  | _ => false

/-- Readers that may still stand further behind: (reader, value, place). -/
abbrev Pend := List (IOp × AV × Nat)

def Pend.holds (l : Pend) (h : H) : Bool := l.all fun p => readsAs p.1 p.2.1 h

def Pend.add (l : Pend) (ts : List AV) (o : DOper) (v : AV) : Pend :=
  match rdOp (ev ts) o.op with
  | some r => (r, v, o.id) :: l
  | none => l

/-- The operations in one order; at each act, and at the end, each reader that may stand there reads what it read. -/
def runDraw (cf : CallF) : List DOper → List AV → H → Pend → Option (List AV × H)
  | [], ts, h, pend => if pend.holds h then some (ts, h) else none
  | o :: os, ts, h, pend =>
    if o.act then
      if pend.holds h then
        if wanted o.guard ts then
          match oneOp cf o.op ts h with
          | some (v, h') => runDraw cf os (put ts o.dst v) h' (pend.filter fun p => !o.mask.testBit p.2.2)
          | none => none
        else runDraw cf os (put ts o.dst .undef) h (pend.filter fun p => !o.mask.testBit p.2.2)
      else none
    else
      if wanted o.guard ts then
        match oneOp cf o.op ts h with
        | some (v, h') => runDraw cf os (put ts o.dst v) h' (pend.add ts o v)
        | none => none
      else runDraw cf os (put ts o.dst .undef) h pend

/-- Code: 'cf' calls, 'rc' runs a scope's rest behind a jump. -/
def exec (cf : CallF) (rc : IC → St → Option (Ex × St)) (fuel : Nat) : IC → St → Option (Ex × St)
  | .skip, s => some (.normal, s)
  | .label _, s => some (.normal, s)
  | .region ops, s => (runOps cf ops s.1 s.2).map (Ex.normal, ·)
  | .draw ops, s => (runDraw cf ops s.1 s.2 []).map (Ex.normal, ·)
  | .seq a b, s => match exec cf rc fuel a s with
    | some (.normal, s') => exec cf rc fuel b s'
    | r => r
  | .cond x a b, s => match ev s.1 x with
    | .bool true => exec cf rc fuel a s
    | .bool false => exec cf rc fuel b s
    | _ => none
  | .block id a, s => match exec cf rc fuel a s with
    | some (.exit i, s') => if i == id then some (.normal, s') else some (.exit i, s')
    | r => r
  | .loop a, s => rounds (exec cf rc fuel a) fuel s
  | .exit id, s => some (.exit id, s)
  | .ret, s => some (.ret, s)
  | .scope a, s => match exec cf rc fuel a s with
    | some (.goto l, s') => match a.find l with
      | some r => rc (.inS a r) s'
      | none => some (.goto l, s')
    | r => r
  | .inS a b, s => match exec cf rc fuel b s with
    | some (.goto l, s') => match a.find l with
      | some r => rc (.inS a r) s'
      | none => some (.goto l, s')
    | r => r
  | .goto l, s => some (.goto l, s)

def resOf (h : H) (ts : List AV) : List (Nat × Option (Option Nat)) → Option (List AV)
  | [] => some []
  | (t, none) :: r => (resOf h ts r).map ((getL ts t).getD .undef :: ·)
  | (t, some ag) :: r => match iop (.ld ag (.t t)) (ev ts) h with
    | some (.val v _) => (resOf h ts r).map (v :: ·)
    | _ => none

def retV (h : H) (ts : List AV) (rs : List (Nat × Option (Option Nat))) : Option AV :=
  match resOf h ts rs with
  | some [v] => some v
  | some vs => some (.tup vs)
  | none => none

structure Mach where
  call : CallF
  code : IC → St → Option (Ex × St)

def Mach.none : Mach := ⟨fun _ _ _ => Option.none, fun _ _ => Option.none⟩

abbrev FTab := FuncId → Option IFunc

def callStep (F : FTab) (n : Nat) (m : Mach) : CallF := fun f args h =>
  match F f with
  | Option.none => Option.none
  | some fn =>
    if fn.known then (if args.isEmpty then some (.bool true, h) else Option.none) else
    match exec m.call m.code n fn.body (args ++ List.replicate (fn.ntmps - args.length) .undef, h) with
    | some (.normal, s) => (retV s.2 s.1 fn.results).map (·, s.2)
    | some (.ret, s) => (retV s.2 s.1 fn.results).map (·, s.2)
    | _ => Option.none

def mach (F : FTab) : Nat → Mach
  | 0 => .none
  | n + 1 => ⟨callStep F n (mach F n), exec (mach F n).call (mach F n).code n⟩

end Go.Det

/- How a state of the deterministic machine stands to a real world: values, blocks of memory, and what a step may change. -/
set_option linter.unusedVariables false
set_option linter.unusedSimpArgs false
set_option linter.unusedSectionVars false
namespace Go.Det
open Go.RowKit

/-- A real block, and how many cells it has. -/
structure RB where
  r : Nat
  n : Nat

/-- Which real block a block (in one of its states) is. -/
abbrev Mu := Nat → Nat → Option RB

def Mu.le (μ μ' : Mu) : Prop := ∀ b g rb, μ b g = some rb → μ' b g = some rb

theorem Mu.le.refl (μ : Mu) : μ.le μ := fun _ _ _ h => h
theorem Mu.le.trans {μ μ' μ'' : Mu} (h : μ.le μ') (h' : μ'.le μ'') : μ.le μ'' := fun _ _ _ x => h' _ _ _ (h _ _ _ x)

mutual
def VRel (μ : Mu) : AV → Value → Prop
  | .bool b, v => v = .bool b
  | .int k n, v => v = .int k n
  | .str s, v => v = .string ⟨s.toArray⟩
  | .nilp, v => v = .pointer none
  | .ptr a, v => ∃ rb, μ a.b a.g = some rb ∧ v = .pointer (some ⟨rb.r, a.o, none⟩)
  | .nils, v => v = .slice none 0 0
  | .sl a n (.ex c), v => (∃ rb, μ a.b a.g = some rb ∧ v = .slice (some ⟨rb.r, a.o, none⟩) n c ∧ n ≤ c) ∨ (n = 0 ∧ c = 0 ∧ ∃ ad, v = .slice (some ad) 0 0)
  | .sl a n (.op e), v => ∃ rb o c, μ a.b a.g = some rb ∧ v = .slice (some ⟨rb.r, o, none⟩) n c ∧ n ≤ c ∧ c ≤ maxLen ∧ ((o = a.o ∧ a.o + c * e = rb.n) ∨ (c = 0 ∧ o ≤ a.o))
  | .nilm, v => v = .map none
  | .map r, v => ∃ rb, μ r 0 = some rb ∧ v = .map (some rb.r)
  | .nilf, v => v = .nilFunc
  | .fn f a b, v => ∃ x y, v = .func f x y ∧ VRels μ a x.toList ∧ VRels μ b y.toList
  | .nili, v => v = .nilIface
  | .ifc t x, v => ∃ y, v = .iface t y ∧ VRel μ x y
  | .agg cs, v => ∃ vs, v = .agg vs ∧ VRels μ cs vs.toList
  | .tup cs, v => ∃ vs, v = .tuple vs ∧ VRels μ cs vs.toList
def VRels (μ : Mu) : List AV → List Value → Prop
  | [], l => l = []
  | a :: x, l => ∃ v y, l = v :: y ∧ VRel μ a v ∧ VRels μ x y
end

mutual
theorem VRel.mono {μ μ' : Mu} (hm : μ.le μ') : ∀ (a : AV) (v : Value), VRel μ a v → VRel μ' a v
  | .bool _, _, h => h
  | .int _ _, _, h => h
  | .str _, _, h => h
  | .nilp, _, h => h
  | .ptr _, _, h => by obtain ⟨rb, h1, h2⟩ := h; exact ⟨rb, hm _ _ _ h1, h2⟩
  | .nils, _, h => h
  | .sl _ _ (.ex _), _, h => h.imp (fun ⟨rb, h1, h2⟩ => ⟨rb, hm _ _ _ h1, h2⟩) id
  | .sl _ _ (.op _), _, h => by obtain ⟨rb, o, c, h1, h2⟩ := h; exact ⟨rb, o, c, hm _ _ _ h1, h2⟩
  | .nilm, _, h => h
  | .map _, _, h => by obtain ⟨rb, h1, h2⟩ := h; exact ⟨rb, hm _ _ _ h1, h2⟩
  | .nilf, _, h => h
  | .fn _ a b, _, h => by obtain ⟨x, y, h1, h2, h3⟩ := h; exact ⟨x, y, h1, VRels.mono hm a _ h2, VRels.mono hm b _ h3⟩
  | .nili, _, h => h
  | .ifc _ x, _, h => by obtain ⟨y, h1, h2⟩ := h; exact ⟨y, h1, VRel.mono hm x _ h2⟩
  | .agg cs, _, h => by obtain ⟨y, h1, h2⟩ := h; exact ⟨y, h1, VRels.mono hm cs _ h2⟩
  | .tup cs, _, h => by obtain ⟨y, h1, h2⟩ := h; exact ⟨y, h1, VRels.mono hm cs _ h2⟩
theorem VRels.mono {μ μ' : Mu} (hm : μ.le μ') : ∀ (a : List AV) (v : List Value), VRels μ a v → VRels μ' a v
  | [], _, h => h
  | a :: x, _, h => by obtain ⟨v, y, h1, h2, h3⟩ := h; exact ⟨v, y, h1, VRel.mono hm a _ h2, VRels.mono hm x _ h3⟩
end

section lists
variable {μ : Mu}

theorem VRels.nil : VRels μ [] [] := rfl
theorem VRels.cons {a : AV} {v : Value} {x : List AV} {y : List Value} (h : VRel μ a v) (hs : VRels μ x y) : VRels μ (a :: x) (v :: y) := ⟨v, y, rfl, h, hs⟩
theorem VRels.length {x : List AV} {y : List Value} (h : VRels μ x y) : x.length = y.length := by
  induction x generalizing y with
  | nil => cases h; rfl
  | cons a x ih => obtain ⟨v, y, rfl, _, h⟩ := h; simp [ih h]
theorem VRels.append {x x' : List AV} {y y' : List Value} (h : VRels μ x y) (h' : VRels μ x' y') : VRels μ (x ++ x') (y ++ y') := by
  induction x generalizing y with
  | nil => cases h; exact h'
  | cons a x ih => obtain ⟨v, y, rfl, hv, h⟩ := h; exact ⟨v, y ++ y', rfl, hv, ih h⟩
theorem VRels.get {x : List AV} {y : List Value} (h : VRels μ x y) {i : Nat} {a : AV} (hi : getL x i = some a) : ∃ v, y[i]? = some v ∧ VRel μ a v := by
  induction x generalizing y i with
  | nil => simp [getL] at hi
  | cons b x ih =>
    obtain ⟨v, y, rfl, hv, h⟩ := h
    cases i with
    | zero => simp only [getL, Option.some.injEq] at hi; subst hi; exact ⟨v, by simp, hv⟩
    | succ i => obtain ⟨u, h1, h2⟩ := ih h (by simpa [getL] using hi); exact ⟨u, by simpa using h1, h2⟩
theorem VRels.get_none {x : List AV} {y : List Value} (h : VRels μ x y) {i : Nat} (hi : getL x i = none) : y[i]? = none := by
  induction x generalizing y i with
  | nil => cases h; simp
  | cons b x ih =>
    obtain ⟨v, y, rfl, hv, h⟩ := h
    cases i with
    | zero => simp [getL] at hi
    | succ i => simpa using ih h (by simpa [getL] using hi)
theorem VRels.set {x : List AV} {y : List Value} (h : VRels μ x y) (i : Nat) {a : AV} {v : Value} (hv : VRel μ a v) : VRels μ (setL x i a) (y.set i v) := by
  induction x generalizing y i with
  | nil => cases h; simpa [setL] using VRels.nil
  | cons b x ih =>
    obtain ⟨u, y, rfl, hu, h⟩ := h
    cases i with
    | zero => exact ⟨v, y, rfl, hv, h⟩
    | succ i => exact ⟨u, y.set i v, rfl, hu, ih h i⟩
theorem VRels.take {x : List AV} {y : List Value} (h : VRels μ x y) (n : Nat) : VRels μ (x.take n) (y.take n) := by
  induction x generalizing y n with
  | nil => cases h; simpa using VRels.nil
  | cons a x ih =>
    obtain ⟨v, y, rfl, hv, h⟩ := h
    cases n with
    | zero => simpa using VRels.nil
    | succ n => exact ⟨v, y.take n, rfl, hv, ih h n⟩
theorem VRels.drop {x : List AV} {y : List Value} (h : VRels μ x y) (n : Nat) : VRels μ (x.drop n) (y.drop n) := by
  induction x generalizing y n with
  | nil => cases h; simpa using VRels.nil
  | cons a x ih =>
    obtain ⟨v, y, rfl, hv, h⟩ := h
    cases n with
    | zero => exact ⟨v, y, rfl, hv, h⟩
    | succ n => exact ih h n
theorem VRels.replicate {a : AV} {v : Value} (h : VRel μ a v) (n : Nat) : VRels μ (List.replicate n a) (List.replicate n v) := by
  induction n with
  | zero => exact VRels.nil
  | succ n ih => exact ⟨v, _, rfl, h, ih⟩
theorem VRels.putAt {x : List AV} {y : List Value} (h : VRels μ x y) {o : Nat} {a : List AV} {v : List Value} (hv : VRels μ a v) (hl : o + a.length ≤ x.length) :
    VRels μ (putAt x o a) (y.take o ++ v ++ y.drop (o + v.length)) := by
  induction o generalizing x y with
  | zero => 
    have e : Det.putAt x 0 a = a ++ x.drop a.length := by cases x <;> rfl
    rw [e]; simpa [hv.length] using hv.append (h.drop v.length)
  | succ o ih =>
    cases x with
    | nil => simp at hl
    | cons b x =>
      obtain ⟨u, y, rfl, hu, h⟩ := h
      have := ih h (by simp at hl; omega)
      refine ⟨u, y.take o ++ v ++ y.drop (o + v.length), ?_, hu, this⟩
      simp [Nat.add_right_comm o 1]

/-- So much of a row is known. -/
def VPre (μ : Mu) (c : List AV) (l : List Value) : Prop := ∃ l1 l2, l = l1 ++ l2 ∧ VRels μ c l1

theorem VPre.get {c : List AV} {l : List Value} (h : VPre μ c l) {i : Nat} {a : AV} (hi : getL c i = some a) : ∃ v, l[i]? = some v ∧ VRel μ a v := by
  obtain ⟨l1, l2, rfl, h⟩ := h
  obtain ⟨v, h1, h2⟩ := h.get hi
  have hlt : i < l1.length := (List.getElem?_eq_some_iff.1 h1).1
  exact ⟨v, by rw [List.getElem?_append_left hlt]; exact h1, h2⟩
theorem VPre.length {c : List AV} {l : List Value} (h : VPre μ c l) : c.length ≤ l.length := by
  obtain ⟨l1, l2, rfl, h⟩ := h
  simp [h.length]
theorem VPre.cut {c : List AV} {l : List Value} (h : VPre μ c l) {o n : Nat} {r : List AV} (hc : cut c o n = some r) :
    ∃ vs, vs.length = n ∧ VRels μ r vs ∧ ∀ j v, vs[j]? = some v → l[o + j]? = some v := by
  obtain ⟨l1, l2, rfl, h⟩ := h
  unfold Det.cut at hc
  simp only [] at hc
  split at hc
  · rename_i hn
    simp only [Option.some.injEq] at hc
    subst hc
    have hv := (h.drop o).take n
    refine ⟨_, ?_, hv, ?_⟩
    · rw [← hv.length]; simpa using hn
    · intro j v hj
      rw [List.getElem?_take] at hj
      split at hj
      · rw [List.getElem?_drop] at hj
        have hlt : o + j < l1.length := (List.getElem?_eq_some_iff.1 hj).1
        rw [List.getElem?_append_left hlt]; exact hj
      · simp at hj
  · simp at hc
theorem VPre.putAt {c : List AV} {l : List Value} (h : VPre μ c l) {o : Nat} {a : List AV} {v : List Value} (hv : VRels μ a v) (hl : o + a.length ≤ c.length) :
    VPre μ (putAt c o a) (l.take o ++ v ++ l.drop (o + v.length)) := by
  obtain ⟨l1, l2, rfl, h⟩ := h
  have e := hv.length
  have e' := h.length
  refine ⟨_, l2, ?_, h.putAt hv hl⟩
  rw [List.take_append_of_le_length (by omega), List.drop_append_of_le_length (by omega)]
  simp
theorem VPre.append {c : List AV} {l : List Value} {a : List AV} {v : List Value} (h : VPre μ c l) (hv : VRels μ a v) :
    VPre μ (c ++ a) (l.take c.length ++ v ++ l.drop (c.length + v.length)) := by
  obtain ⟨l1, l2, rfl, h⟩ := h
  have e' := h.length
  refine ⟨l1 ++ v, (l1 ++ l2).drop (c.length + v.length), ?_, h.append hv⟩
  rw [e', List.take_left]
theorem VPre.of {c : List AV} {l l' : List Value} (h : VRels μ c l) : VPre μ c (l ++ l') := ⟨l, l', rfl, h⟩
theorem VPre.mono {μ' : Mu} (hm : μ.le μ') {c : List AV} {l : List Value} (h : VPre μ c l) : VPre μ' c l := by
  obtain ⟨l1, l2, e, h⟩ := h; exact ⟨l1, l2, e, VRels.mono hm _ _ h⟩
end lists

/-! ### Blocks -/

def Blk.gen : Blk → Nat
  | .cells g _ _ _ _ => g
  | _ => 0

def Blk.ro : Blk → Bool
  | .cells _ _ _ _ ro => ro
  | _ => false

def ERels (μ : Mu) : List (AV × AV × Nat) → List MapEntry → Prop
  | [], l => l = []
  | (k, v, n) :: x, l => ∃ e y, l = e :: y ∧ VRel μ k e.key ∧ VRel μ v e.val ∧ e.born = n ∧ ERels μ x y

theorem ERels.mono {μ μ' : Mu} (hm : μ.le μ') : ∀ (a : List (AV × AV × Nat)) (v : List MapEntry), ERels μ a v → ERels μ' a v
  | [], _, h => h
  | (_, _, _) :: x, _, h => by obtain ⟨e, y, h1, h2, h3, h4, h5⟩ := h; exact ⟨e, y, h1, VRel.mono hm _ _ h2, VRel.mono hm _ _ h3, h4, ERels.mono hm x _ h5⟩

/-- What is known of a real object. -/
def ORel (μ : Mu) (n : Nat) : Blk → Obj → Prop
  | .cells _ e c fz _, o => ∃ c' lo hi, o = .cells c' e (lo, hi) ∧ c'.size = n ∧ VPre μ c c'.toList ∧ lo ≤ hi ∧ ∀ i, lo ≤ i → i < hi → i < fz ∨ n ≤ i
  | .map es clock, o => ∃ es', o = .map es' clock ∧ ERels μ es es'.toList
  | .iter s pos, o => o = .stringIter ⟨s.toArray⟩ pos

theorem ORel.mono {μ μ' : Mu} (hm : μ.le μ') {n : Nat} {B : Blk} {o : Obj} (h : ORel μ n B o) : ORel μ' n B o := by
  cases B with
  | cells g e c fz ro => obtain ⟨c', lo, hi, h1, h2, h3, h4⟩ := h; exact ⟨c', lo, hi, h1, h2, h3.mono hm, h4⟩
  | map es clock => obtain ⟨es', h1, h2⟩ := h; exact ⟨es', h1, ERels.mono hm _ _ h2⟩
  | iter s pos => exact h

/-- What is known of a real object that is only read: from its k-th cell on. -/
def RoRel (μ : Mu) : Blk → Obj → Prop
  | .cells _ e c k true, o => ∃ c' fz l', o = .cells c' e fz ∧ VPre μ c l' ∧ ∀ i, k ≤ i → l'[i]? = c'.toList[i]?
  | _, _ => False

theorem RoRel.mono {μ μ' : Mu} (hm : μ.le μ') {B : Blk} {o : Obj} (h : RoRel μ B o) : RoRel μ' B o := by
  unfold RoRel at h ⊢
  split at h
  · obtain ⟨c', fz, l', h1, h2, h3⟩ := h; exact ⟨c', fz, l', h1, h2.mono hm, h3⟩
  · exact h.elim

def BRel (μ : Mu) (B : Blk) (rb : RB) (w : World) : Prop := ∃ o, w.heap[rb.r]? = some o ∧ (ORel μ rb.n B o ∨ RoRel μ B o)

theorem BRel.own {μ : Mu} {B : Blk} {rb : RB} {w : World} (h : BRel μ B rb w) (hr : B.ro = false) : ∃ o, w.heap[rb.r]? = some o ∧ ORel μ rb.n B o := by
  obtain ⟨o, h1, h2 | h2⟩ := h
  · exact ⟨o, h1, h2⟩
  · exfalso
    unfold RoRel at h2
    split at h2
    · simp [Blk.ro] at hr
    · exact h2

structure WRel (μ : Mu) (w0 : World) (ng : Nat) (h : H) (w : World) : Prop where
  base : Below w0.heap.size w0 w
  glob : ∀ g, g < ng → ∃ n, μ g 0 = some ⟨g, n⟩
  dom : ∀ b g rb, μ b g = some rb → rb.r < w.heap.size ∧ b < h.n ∧ ∃ B, h.get b = some B ∧ g ≤ B.gen
  blk : ∀ b B rb, h.get b = some B → μ b B.gen = some rb → BRel μ B rb w ∧ (B.ro = false → w0.heap.size ≤ rb.r)
  inj : ∀ b B rb b' B' rb', h.get b = some B → h.get b' = some B' → μ b B.gen = some rb → μ b' B'.gen = some rb' → B.ro = false → rb.r = rb'.r → b = b'

/-- What a step may change. -/
structure Adv (μ : Mu) (h : H) (w : World) (μ' : Mu) (h' : H) (w' : World) : Prop where
  le : μ.le μ'
  size : w.heap.size ≤ w'.heap.size
  n : h.n ≤ h'.n
  keep : ∀ r, r < w.heap.size → (∀ b g rb, μ b g = some rb → rb.r ≠ r) → w'.heap[r]? = w.heap[r]?
  new : ∀ b g rb, μ' b g = some rb → (∃ g0 rb0, μ b g0 = some rb0 ∧ (rb0.r = rb.r ∨ w.heap.size ≤ rb.r)) ∨ (h.n ≤ b ∧ w.heap.size ≤ rb.r)
  own : ∀ b, b < h.n → (∀ g rb, μ b g ≠ some rb) → h'.get b = h.get b

theorem Adv.refl (μ : Mu) (h : H) (w : World) : Adv μ h w μ h w :=
  ⟨.refl μ, Nat.le_refl _, Nat.le_refl _, fun _ _ _ => rfl, fun _ g rb e => .inl ⟨g, rb, e, .inl rfl⟩, fun _ _ _ => rfl⟩

theorem Adv.trans {μ μ' μ'' : Mu} {h h' h'' : H} {w w' w'' : World} (a : Adv μ h w μ' h' w') (b : Adv μ' h' w' μ'' h'' w'') : Adv μ h w μ'' h'' w'' := by
  refine ⟨a.le.trans b.le, Nat.le_trans a.size b.size, Nat.le_trans a.n b.n, ?_, ?_, ?_⟩
  · intro r hr hn
    rw [b.keep r (Nat.lt_of_lt_of_le hr a.size), a.keep r hr hn]
    intro k g rb e
    rcases a.new k g rb e with ⟨g0, rb0, e0, h0 | h0⟩ | ⟨_, h0⟩
    · rw [← h0]; exact hn _ _ _ e0
    · omega
    · omega
  · intro k g rb e
    rcases b.new k g rb e with ⟨g0, rb0, e0, h0⟩ | ⟨h1, h2⟩
    · rcases a.new k g0 rb0 e0 with ⟨g1, rb1, e1, h1⟩ | ⟨h1, h2⟩
      · refine .inl ⟨g1, rb1, e1, ?_⟩
        have := a.size
        rcases h0 with h0 | h0
        · rw [← h0]; exact h1
        · exact .inr (by omega)
      · refine .inr ⟨h1, ?_⟩
        have := a.size
        rcases h0 with h0 | h0
        · omega
        · omega
    · exact .inr ⟨by have := a.n; omega, by have := a.size; omega⟩
  · intro k hk hno
    rw [b.own k (Nat.lt_of_lt_of_le hk a.n) (fun g rb e => by
      rcases a.new k g rb e with ⟨g0, rb0, e0, _⟩ | ⟨h1, _⟩
      · exact hno _ _ e0
      · omega), a.own k hk hno]

/-- The world w' is w with block r being o. -/
structure Chg (w w' : World) (r : Nat) (o : Obj) : Prop where
  os : w'.os = w.os
  tape : w'.tape = w.tape
  output : w'.output = w.output
  size : w.heap.size ≤ w'.heap.size
  here : w'.heap[r]? = some o
  there : ∀ k, k ≠ r → k < w.heap.size → w'.heap[k]? = w.heap[k]?

theorem getElem?_lt {α : Type} {a : Array α} {i : Nat} {x : α} (h : a[i]? = some x) : i < a.size := (Array.getElem?_eq_some_iff.1 h).1

theorem Chg.alloc (w : World) (o : Obj) : Chg w (w.alloc o) w.heap.size o :=
  ⟨rfl, rfl, rfl, by simp, by show (w.heap.push o)[w.heap.size]? = some o; simp, fun k _ hk => by
    show (w.heap.push o)[k]? = _
    rw [Array.getElem?_push, if_neg (by omega)]⟩

theorem Chg.drew {w w' : World} {r : Nat} {o : Obj} (h : Chg w w' r o) (w1 : World) (hw : w1.heap = w.heap) (h1 : w1.os = w.os) (h2 : w1.tape = w.tape) (h3 : w1.output = w.output) : Chg w1 w' r o :=
  ⟨h.os.trans h1.symm, h.tape.trans h2.symm, h.output.trans h3.symm, by rw [hw]; exact h.size, h.here, fun k hk hl => by rw [hw] at hl ⊢; exact h.there k hk hl⟩

def Mu.put (μ : Mu) (b g : Nat) (rb : RB) : Mu := fun b' g' => if b' = b ∧ g' = g then some rb else μ b' g'

/-- A block is written, made, or appended to. -/
theorem WRel.upd {μ : Mu} {w0 : World} {ng : Nat} {h h' : H} {w w' : World} (W : WRel μ w0 ng h w) (b : Nat) (B : Blk) (rb : RB) (o : Obj)
    (hget : h'.get b = some B) (hoth : ∀ k, k ≠ b → h'.get k = h.get k) (hn : h.n ≤ h'.n) (hbn : b < h'.n)
    (hc : Chg w w' rb.r o) (hsz : rb.r < w'.heap.size)
    (hro : B.ro = false)
    (hwhere : (rb.r = w.heap.size ∧ (h.n ≤ b ∨ ∃ B0 rb0, h.get b = some B0 ∧ μ b B0.gen = some rb0 ∧ B0.ro = false)) ∨ ∃ B0 rb0, h.get b = some B0 ∧ μ b B0.gen = some rb0 ∧ B0.ro = false ∧ rb0.r = rb.r)
    (hgen : ∀ g rb1, μ b g = some rb1 → g ≤ B.gen)
    (hsame : ∀ rb1, μ b B.gen = some rb1 → rb1 = rb)
    (ho : ORel (μ.put b B.gen rb) rb.n B o) :
    WRel (μ.put b B.gen rb) w0 ng h' w' ∧ Adv μ h w (μ.put b B.gen rb) h' w' := by
  have hle : μ.le (μ.put b B.gen rb) := by
    intro k g rb1 e
    unfold Mu.put
    split
    · rename_i hk; obtain ⟨rfl, rfl⟩ := hk; rw [hsame _ e]
    · exact e
  have hback : ∀ k g rb1, (μ.put b B.gen rb) k g = some rb1 → (k = b ∧ g = B.gen ∧ rb1 = rb) ∨ μ k g = some rb1 := by
    intro k g rb1 e
    unfold Mu.put at e
    split at e
    · rename_i hk; exact .inl ⟨hk.1, hk.2, by simpa using e.symm⟩
    · exact .inr e
  have hw0 : w0.heap.size ≤ rb.r := by
    rcases hwhere with ⟨e, _⟩ | ⟨B0, rb0, h1, h2, h3, h4⟩
    · rw [e]; exact W.base.size
    · rw [← h4]; exact (W.blk b B0 rb0 h1 h2).2 h3
  -- a block that is not b lies elsewhere
  have hfar : ∀ k Bk rbk, k ≠ b → h.get k = some Bk → μ k Bk.gen = some rbk → rbk.r ≠ rb.r := by
    intro k Bk rbk hk h1 h2 e
    rcases hwhere with ⟨e1, _⟩ | ⟨B0, rb0, h3, h4, h5, h6⟩
    · have := (W.dom k _ _ h2).1; omega
    · exact hk (W.inj b B0 rb0 k Bk rbk h3 h1 h4 h2 h5 (by omega)).symm
  constructor
  · refine ⟨?_, ?_, ?_, ?_, ?_⟩
    · refine ⟨hc.os.trans W.base.os, hc.tape.trans W.base.tape, hc.output.trans W.base.output, Nat.le_trans W.base.size hc.size, ?_⟩
      intro k hk
      rw [hc.there k (by omega) (Nat.lt_of_lt_of_le hk W.base.size)]
      exact W.base.block k hk
    · intro g hg
      obtain ⟨n, hn⟩ := W.glob g hg
      exact ⟨n, hle _ _ _ hn⟩
    · intro k g rb1 e
      rcases hback k g rb1 e with ⟨rfl, rfl, rfl⟩ | e2
      · exact ⟨hsz, hbn, B, hget, Nat.le_refl _⟩
      · obtain ⟨h1, h2, B1, h3, h4⟩ := W.dom k g rb1 e2
        refine ⟨Nat.lt_of_lt_of_le h1 hc.size, Nat.lt_of_lt_of_le h2 hn, ?_⟩
        by_cases hk : k = b
        · subst hk; exact ⟨B, hget, hgen _ _ e2⟩
        · exact ⟨B1, by rw [hoth k hk]; exact h3, h4⟩
    · intro k Bk rbk h1 h2
      by_cases hk : k = b
      · subst hk
        rw [hget] at h1
        cases h1
        have e : rbk = rb := by
          rcases hback _ _ _ h2 with ⟨_, _, e⟩ | e
          · exact e
          · exact hsame _ e
        subst e
        exact ⟨⟨o, hc.here, .inl ho⟩, fun _ => hw0⟩
      · rw [hoth k hk] at h1
        have e : μ k Bk.gen = some rbk := by
          rcases hback _ _ _ h2 with ⟨e, _, _⟩ | e
          · exact absurd e hk
          · exact e
        obtain ⟨⟨o', h3, h4⟩, h5⟩ := W.blk k Bk rbk h1 e
        refine ⟨⟨o', ?_, h4.imp (·.mono hle) (·.mono hle)⟩, h5⟩
        rw [hc.there _ (hfar k Bk rbk hk h1 e) (getElem?_lt h3)]
        exact h3
    · intro k Bk rbk k' Bk' rbk' h1 h2 h3 h4 h5 h6
      have es : ∀ k Bk rbk, h'.get k = some Bk → (μ.put b B.gen rb) k Bk.gen = some rbk → (k = b ∧ rbk = rb) ∨ (k ≠ b ∧ h.get k = some Bk ∧ μ k Bk.gen = some rbk) := by
        intro k Bk rbk h1 h2
        by_cases hk : k = b
        · subst hk
          rw [hget] at h1
          cases h1
          left
          rcases hback _ _ _ h2 with ⟨_, _, e⟩ | e
          · exact ⟨rfl, e⟩
          · exact ⟨rfl, hsame _ e⟩
        · right
          rw [hoth k hk] at h1
          rcases hback _ _ _ h2 with ⟨e, _, _⟩ | e
          · exact absurd e hk
          · exact ⟨hk, h1, e⟩
      rcases es k Bk rbk h1 h3 with ⟨rfl, rfl⟩ | ⟨n1, g1, m1⟩ <;> rcases es k' Bk' rbk' h2 h4 with ⟨rfl, rfl⟩ | ⟨n2, g2, m2⟩
      · rfl
      · exact absurd h6.symm (hfar _ _ _ n2 g2 m2)
      · exact absurd h6 (hfar _ _ _ n1 g1 m1)
      · exact W.inj _ _ _ _ _ _ g1 g2 m1 m2 h5 h6
  · refine ⟨hle, hc.size, hn, ?_, ?_, ?_⟩
    · intro r hr hnone
      refine hc.there r ?_ hr
      rcases hwhere with ⟨e, _⟩ | ⟨B0, rb0, h3, h4, h5, h6⟩
      · omega
      · intro e; exact hnone _ _ _ h4 (by omega)
    · intro k g rb1 e
      rcases hback k g rb1 e with ⟨rfl, rfl, rfl⟩ | e
      · rcases hwhere with ⟨e, hb | ⟨B0, rb0, h3, h4, h5⟩⟩ | ⟨B0, rb0, h3, h4, h5, h6⟩
        · exact .inr ⟨hb, by omega⟩
        · exact .inl ⟨_, rb0, h4, .inr (by omega)⟩
        · exact .inl ⟨_, rb0, h4, .inl h6⟩
      · exact .inl ⟨g, rb1, e, .inl rfl⟩
    · intro k hk hno
      refine hoth k ?_
      rintro rfl
      rcases hwhere with ⟨_, hb | ⟨B0, rb0, _, h4, _⟩⟩ | ⟨B0, rb0, _, h4, _, _⟩
      · omega
      · exact hno _ _ h4
      · exact hno _ _ h4

/-- A draw moves a count alone. -/
theorem WRel.drew {μ : Mu} {w0 : World} {ng : Nat} {h : H} {w w' : World} (W : WRel μ w0 ng h w) (hw : w'.heap = w.heap) (h1 : w'.os = w.os) (h2 : w'.tape = w.tape) (h3 : w'.output = w.output) :
    WRel μ w0 ng h w' :=
  ⟨⟨h1.trans W.base.os, h2.trans W.base.tape, h3.trans W.base.output, by rw [hw]; exact W.base.size, fun k hk => by rw [hw]; exact W.base.block k hk⟩, W.glob,
    fun b g rb e => by rw [hw]; exact W.dom b g rb e, fun b B rb e1 e2 => by unfold BRel; rw [hw]; exact W.blk b B rb e1 e2, W.inj⟩

/-! ### The tree of blocks -/

theorem Tr.get_setF : ∀ (f : Nat) (t : Tr) (i : Nat) (x : Blk), i < f → (Tr.setF f t i x).get i = some x
  | 0, _, _, _, h => absurd h (Nat.not_lt_zero _)
  | f + 1, t, i, x, h => by
    cases i with
    | zero => cases t <;> simp [Tr.setF, Tr.get]
    | succ j =>
      have hlt : j / 2 < f := by omega
      cases hj : (j % 2 == 0) <;> cases t <;> simp only [Tr.setF, hj, if_true, Tr.get, Bool.false_eq_true, if_false] <;> exact Tr.get_setF f _ _ x hlt

theorem Tr.get_setF_ne : ∀ (f : Nat) (t : Tr) (i k : Nat) (x : Blk), k ≠ i → (Tr.setF f t i x).get k = t.get k
  | 0, _, _, _, _, _ => rfl
  | f + 1, t, i, k, x, h => by
    have ev2 : ∀ a b : Nat, (a % 2 == 0) = true → (b % 2 == 0) = true → a ≠ b → a / 2 ≠ b / 2 := by intro a b; simp; omega
    have od2 : ∀ a b : Nat, (a % 2 == 0) = false → (b % 2 == 0) = false → a ≠ b → a / 2 ≠ b / 2 := by intro a b; simp; omega
    cases i with
    | zero =>
      cases k with
      | zero => exact absurd rfl h
      | succ k => cases t <;> simp [Tr.setF, Tr.get]
    | succ j =>
      cases hj : (j % 2 == 0) <;> cases k with
      | zero => cases t <;> simp [Tr.setF, hj, Tr.get]
      | succ k =>
        have hne : k ≠ j := fun e => h (by omega)
        cases hk : (k % 2 == 0) <;> cases t <;> simp only [Tr.setF, hj, hk, if_true, Tr.get, Bool.false_eq_true, if_false] <;>
          first
            | rfl
            | (rw [Tr.get_setF_ne f _ _ _ x (od2 _ _ hk hj hne)]; try rfl)
            | (rw [Tr.get_setF_ne f _ _ _ x (ev2 _ _ hk hj hne)]; try rfl)

theorem H.get_set (h : H) (b : Nat) (x : Blk) : (h.set b x).get b = some x := Tr.get_setF _ _ _ _ (by omega)
theorem H.get_set_ne (h : H) (b k : Nat) (x : Blk) (hk : k ≠ b) : (h.set b x).get k = h.get k := Tr.get_setF_ne _ _ _ _ _ hk
theorem H.get_new (h : H) (x : Blk) : (h.new x).get h.n = some x := Tr.get_setF _ _ _ _ (by omega)
theorem H.get_new_ne (h : H) (k : Nat) (x : Blk) (hk : k ≠ h.n) : (h.new x).get k = h.get k := Tr.get_setF_ne _ _ _ _ _ hk
@[simp] theorem H.n_set (h : H) (b : Nat) (x : Blk) : (h.set b x).n = h.n := rfl
@[simp] theorem H.n_new (h : H) (x : Blk) : (h.new x).n = h.n + 1 := rfl

theorem cut_pre {c : List AV} {o m k : Nat} {r : List AV} (hc : cut c o k = some r) : r.length = k := by
  unfold cut at hc
  simp only [] at hc
  split at hc
  · rename_i hn; simp only [Option.some.injEq] at hc; subst hc; simpa using hn
  · simp at hc
theorem WRel.same {μ : Mu} {w0 : World} {ng : Nat} {h h' : H} {w : World} (W : WRel μ w0 ng h w) (hg : ∀ q, h'.get q = h.get q) (hn : h'.n = h.n) : WRel μ w0 ng h' w :=
  ⟨W.base, W.glob, fun b g rb e => by rw [hn, hg]; exact W.dom b g rb e, fun b B rb e1 e2 => W.blk b B rb (by rw [← hg]; exact e1) e2, fun b B rb b' B' rb' e1 e2 => W.inj b B rb b' B' rb' (by rw [← hg]; exact e1) (by rw [← hg]; exact e2)⟩
theorem Adv.same {μ : Mu} {h h' : H} {w : World} (hg : ∀ q, h'.get q = h.get q) (hn : h'.n = h.n) : Adv μ h w μ h' w :=
  ⟨.refl μ, Nat.le_refl _, Nat.le_of_eq hn.symm, fun _ _ _ => rfl, fun _ g rb e => .inl ⟨g, rb, e, .inl rfl⟩, fun b _ _ => hg b⟩
theorem putAt_nil : ∀ (c : List AV) (o : Nat), putAt c o [] = c
  | [], o => by cases o <;> rfl
  | _ :: _, 0 => rfl
  | x :: c, o + 1 => by
    have := putAt_nil c o
    simp only [putAt, this]
theorem st_nil {h h' : H} {a : AA} (hs : h.st a [] = some h') : (∀ q, h'.get q = h.get q) ∧ h'.n = h.n := by
  unfold H.st at hs
  split at hs
  · rename_i g e c fz ro hg
    split at hs
    · simp only [Option.some.injEq] at hs
      subst hs
      refine ⟨fun q => ?_, rfl⟩
      rw [putAt_nil]
      by_cases hq : q = a.b
      · subst hq; rw [h.get_set, hg]
      · exact h.get_set_ne _ q _ hq
    · simp at hs
  · simp at hs
end Go.Det

/- The deterministic machine's memory against the real one's: loads, stores, new blocks. -/
set_option linter.unusedVariables false
set_option linter.unusedSimpArgs false
set_option linter.unusedSectionVars false
namespace Go.Det
open Go.RowKit

theorem Mu.put_same {μ : Mu} {b g : Nat} {rb : RB} (h : μ b g = some rb) : μ.put b g rb = μ := by
  funext b' g'
  unfold Mu.put
  split
  · rename_i e; obtain ⟨rfl, rfl⟩ := e; exact h.symm
  · rfl

theorem Mu.put_at (μ : Mu) (b g : Nat) (rb : RB) : μ.put b g rb b g = some rb := by simp [Mu.put]

theorem addr_add (r o i : Nat) : (⟨r, o, none⟩ : Addr).add i = ⟨r, o + i, none⟩ := by unfold Addr.add; split <;> simp_all

theorem cell_at {w : World} {r o : Nat} {c : Array Value} {e : TypeId} {fz : Nat × Nat} {v : Value} (h : w.heap[r]? = some (.cells c e fz)) (hv : c.toList[o]? = some v) :
    w.cell? ⟨r, o, none⟩ = some v := by simp only [World.cell?, h]; simpa using hv

section
variable {μ : Mu} {w0 : World} {ng : Nat} {h : H} {w : World}

theorem WRel.row (W : WRel μ w0 ng h w) {a : AA} {c : List AV} (hr : h.row a = some c) {rb : RB} (hm : μ a.b a.g = some rb) :
    ∃ c' e fz l', w.heap[rb.r]? = some (.cells c' e fz) ∧ VPre μ c l' ∧ ∀ i, a.o ≤ i → l'[i]? = c'.toList[i]? := by
  unfold H.row at hr
  split at hr
  · rename_i g e c0 fz ro hg
    split at hr
    · rename_i hgen
      simp only [Option.some.injEq] at hr
      subst hr
      simp only [Bool.and_eq_true, Bool.or_eq_true, Bool.not_eq_true', decide_eq_true_eq, beq_iff_eq] at hgen
      obtain ⟨hgen, hro⟩ := hgen
      subst hgen
      obtain ⟨⟨o, h1, h2 | h2⟩, _⟩ := W.blk _ _ rb hg hm
      · obtain ⟨c', lo, hi, rfl, _, h4, _, _⟩ := h2
        exact ⟨c', e, (lo, hi), c'.toList, h1, h4, fun _ _ => rfl⟩
      · unfold RoRel at h2
        split at h2
        · rename_i g e c k heq
          obtain ⟨c', fz', l', rfl, h4, h5⟩ := h2
          simp only [Blk.cells.injEq] at heq
          obtain ⟨rfl, rfl, rfl, rfl, rfl⟩ := heq
          exact ⟨c', e, fz', l', h1, h4, fun i hi => h5 i (by have := hro.resolve_left (by simp); omega)⟩
        · exact h2.elim
    · simp at hr
  · simp at hr

theorem WRel.ld (W : WRel μ w0 ng h w) {a : AA} {v : AV} (hl : h.ld a = some v) {rb : RB} (hm : μ a.b a.g = some rb) :
    ∃ v', w.cell? ⟨rb.r, a.o, none⟩ = some v' ∧ VRel μ v v' := by
  unfold H.ld at hl
  split at hl
  · rename_i c hr
    obtain ⟨c', e, fz, l', h1, h2, h5⟩ := W.row hr hm
    obtain ⟨v', h3, h4⟩ := h2.get hl
    exact ⟨v', cell_at h1 (by rw [← h5 _ (Nat.le_refl _)]; exact h3), h4⟩
  · simp at hl

theorem run_loadCells_list' (P : Program) (a : Addr) : ∀ (cs : List Value) (i : Nat) (acc : Array Value), (∀ j v, cs[j]? = some v → w.cell? (a.add (i + j)) = some v) →
    (loadCellsFrom a i cs.length acc).run P w = .ok (acc ++ cs.toArray) w
  | [], i, acc, _ => by simp [loadCellsFrom]
  | v :: cs, i, acc, h => by
    have h0 : w.cell? (a.add i) = some v := by simpa using h 0 v (by simp)
    have ih := run_loadCells_list' P a cs (i + 1) (acc.push v) (fun j u hj => by have := h (j + 1) u (by simpa using hj); rw [← this]; congr 2; omega)
    simp only [List.length_cons, loadCellsFrom, Sem.run_bind, run_load, h0, Result.andThen_ok, ih]
    simp

theorem WRel.ldn (W : WRel μ w0 ng h w) (P : Program) {a : AA} {n : Nat} {r : List AV} (hl : h.ldn a n = some r) {rb : RB} (hm : μ a.b a.g = some rb) :
    ∃ vs : List Value, (loadCells ⟨rb.r, a.o, none⟩ n).run P w = .ok vs.toArray w ∧ vs.length = n ∧ VRels μ r vs := by
  unfold H.ldn at hl
  split at hl
  · rename_i c hr
    obtain ⟨c', e, fz, l', h1, h2, h6⟩ := W.row hr hm
    obtain ⟨vs, h3, h4, h5⟩ := h2.cut hl
    refine ⟨vs, ?_, h3, h4⟩
    have := run_loadCells_list' (w := w) P ⟨rb.r, a.o, none⟩ vs 0 #[] (fun j v hj => by
      rw [Nat.zero_add, addr_add]; exact cell_at h1 (by rw [← h6 _ (Nat.le_add_right _ _)]; exact h5 j v hj))
    rw [h3] at this
    simpa [loadCells] using this
  · simp at hl

/-! ### Stores -/

theorem Chg.refl {r : Nat} {o : Obj} (h : w.heap[r]? = some o) : Chg w w r o := ⟨rfl, rfl, rfl, Nat.le_refl _, h, fun _ _ _ => rfl⟩
theorem Chg.trans {w' w'' : World} {r : Nat} {o o' : Obj} (h : Chg w w' r o) (h' : Chg w' w'' r o') : Chg w w'' r o' :=
  ⟨h'.os.trans h.os, h'.tape.trans h.tape, h'.output.trans h.output, Nat.le_trans h.size h'.size, h'.here,
    fun k hk hl => (h'.there k hk (Nat.lt_of_lt_of_le hl h.size)).trans (h.there k hk hl)⟩

theorem Chg.setCell {r o : Nat} {c : Array Value} {e : TypeId} {fz : Nat × Nat} (h : w.heap[r]? = some (.cells c e fz)) (v : Value) :
    Chg w (w.setCell ⟨r, o, none⟩ v) r (.cells (c.setIfInBounds o v) e fz) := by
  refine ⟨rfl, rfl, rfl, by simp, ?_, ?_⟩
  · simp [World.setCell, Array.getElem?_modify, h]
  · intro k hk hl
    simp only [World.setCell, Array.getElem?_modify]
    rw [if_neg (by omega)]

theorem run_storeCells_fz (P : Program) (r o : Nat) (e : TypeId) (lo hi : Nat) : ∀ (vs : List Value) (i : Nat) (cur : Array Value) (w : World),
    w.heap[r]? = some (.cells cur e (lo, hi)) → o + i + vs.length ≤ cur.size → (∀ j, i ≤ j → j < i + vs.length → ¬ (lo ≤ o + j ∧ o + j < hi)) → (∀ v ∈ vs, v.oneCell' = true) →
    ∃ w', (storeCells ⟨r, o, none⟩ vs i).run P w = .ok () w' ∧ Chg w w' r (.cells (cur.toList.take (o + i) ++ vs ++ cur.toList.drop (o + i + vs.length)).toArray e (lo, hi)) ∧ w'.heap.size = w.heap.size
  | [], i, cur, w, hg, _, _, _ => by
    refine ⟨w, rfl, ?_, rfl⟩
    simp only [List.append_nil, List.length_nil, Nat.add_zero, List.take_append_drop, Array.toArray_toList]
    exact Chg.refl hg
  | v :: rest, i, cur, w, hg, hl, hf, h1 => by
    have hi' : o + i < cur.size := by simp at hl; omega
    have hcell : w.cell? ⟨r, o + i, none⟩ = some cur[o + i] := cell_at hg (by simp [hi'])
    have hfro : w.frozen? ⟨r, o + i, none⟩ = false := by
      have := hf i (Nat.le_refl _) (by simp)
      simp only [World.frozen?, hg]
      simp only [Bool.and_eq_false_iff, decide_eq_false_iff_not]
      omega
    have hst : (store ((⟨r, o, none⟩ : Addr).add i) v).run P w = .ok () (w.setCell ⟨r, o + i, none⟩ v) := by
      rw [addr_add, run_store P w _ v _ (h1 v (by simp)), hcell]
      simp [hfro]
    have hch := Chg.setCell (o := o + i) hg v
    obtain ⟨w', r1, r2, r3⟩ := run_storeCells_fz P r o e lo hi rest (i + 1) _ _ hch.here (by simp at hl ⊢; omega) (fun j hj hj' => hf j (by omega) (by simp; omega)) (fun x hx => h1 x (by simp [hx]))
    refine ⟨w', ?_, ?_, r3.trans (by simp)⟩
    · simp only [storeCells, Sem.run_bind, hst, Result.andThen_ok, r1]
    · have := hch.trans r2
      have e := list_seg_step cur.toList (o + i) v rest (by simp at hl ⊢; omega)
      have e' : ((cur.setIfInBounds (o + i) v).toList.take (o + (i + 1)) ++ rest ++ (cur.setIfInBounds (o + i) v).toList.drop (o + (i + 1) + rest.length)) =
          cur.toList.take (o + i) ++ v :: rest ++ cur.toList.drop (o + i + (v :: rest).length) := by
        simpa [Array.toList_setIfInBounds, Nat.add_assoc] using e
      rw [e'] at this
      exact this

theorem one_of {μ : Mu} {a : AV} {v : Value} (h : VRel μ a v) (h1 : a.one = true) : v.oneCell' = true := by
  cases a <;> try (cases h; rfl)
  · obtain ⟨rb, _, rfl⟩ := h; rfl
  · rename_i a n c
    cases c with
    | ex c => rcases h with ⟨rb, _, rfl, _⟩ | ⟨_, _, ad, rfl⟩ <;> rfl
    | op e => obtain ⟨rb, o, c, _, rfl, _⟩ := h; rfl
  · obtain ⟨rb, _, rfl⟩ := h; rfl
  · obtain ⟨x, y, rfl, _⟩ := h; rfl
  · obtain ⟨x, rfl, _⟩ := h; rfl
  · simp [AV.one] at h1
  · simp [AV.one] at h1

theorem ones_of {μ : Mu} : ∀ {a : List AV} {v : List Value}, VRels μ a v → a.all AV.one = true → ∀ x ∈ v, x.oneCell' = true
  | [], _, h, _ => by cases h; simp
  | a :: l, _, h, h1 => by
    obtain ⟨v, y, rfl, hv, h⟩ := h
    simp only [List.all_cons, Bool.and_eq_true] at h1
    intro x hx
    rcases List.mem_cons.1 hx with rfl | hx
    · exact one_of hv h1.1
    · exact ones_of h h1.2 x hx

theorem WRel.st (W : WRel μ w0 ng h w) (P : Program) {a : AA} {vs : List AV} {us : List Value} {h' : H} (hs : h.st a vs = some h') (hv : VRels μ vs us) {rb : RB} (hm : μ a.b a.g = some rb) :
    ∃ w', (storeCells ⟨rb.r, a.o, none⟩ us).run P w = .ok () w' ∧ WRel μ w0 ng h' w' ∧ Adv μ h w μ h' w' := by
  unfold H.st at hs
  split at hs
  · rename_i g e c fz ro hg
    split at hs
    · rename_i hcond
      simp only [Option.some.injEq] at hs
      subst hs
      simp only [Bool.and_eq_true, Bool.not_eq_true', decide_eq_true_eq, beq_iff_eq] at hcond
      obtain ⟨⟨⟨⟨rfl, hro⟩, hfz⟩, hlen⟩, hone⟩ := hcond
      obtain ⟨⟨o, h1, h2⟩, h3⟩ := (W.blk _ _ rb hg hm).imp (fun x => x.own hro) id
      obtain ⟨c', lo, hi, rfl, hsz, hpre, hlh, hfr⟩ := h2
      have e1 := hv.length
      have e2 := hpre.length
      simp only [Array.length_toList] at e2
      obtain ⟨w', r1, r2, r3⟩ := run_storeCells_fz P rb.r a.o e lo hi us 0 c' w h1 (by omega) (fun j _ hj hh => by rcases hfr _ hh.1 hh.2 with h | h <;> omega) (ones_of hv hone)
      have hlt := (W.dom _ _ _ hm).1
      have hB : ORel (μ.put a.b a.g rb) rb.n (.cells a.g e (Det.putAt c a.o vs) fz ro) (.cells (c'.toList.take (a.o + 0) ++ us ++ c'.toList.drop (a.o + 0 + us.length)).toArray e (lo, hi)) := by
        rw [Mu.put_same hm]
        refine ⟨_, lo, hi, rfl, ?_, ?_, hlh, hfr⟩
        · simp only [List.size_toArray, List.length_append, List.length_take, List.length_drop, Array.length_toList]; omega
        · simpa using hpre.putAt hv hlen
      have := W.upd a.b (.cells a.g e (Det.putAt c a.o vs) fz ro) rb _ (h.get_set a.b _) (fun k hk => h.get_set_ne a.b k _ hk) (Nat.le_refl _) (W.dom _ _ _ hm).2.1 r2 (by rw [r3]; exact hlt) hro
        (.inr ⟨_, rb, hg, hm, hro, rfl⟩) (fun g rb1 e1 => by obtain ⟨_, _, B, h5, h6⟩ := W.dom _ _ _ e1; rw [hg] at h5; cases h5; exact h6)
        (fun rb1 e1 => by rw [show (Blk.cells a.g e (Det.putAt c a.o vs) fz ro).gen = a.g from rfl, hm] at e1; exact (Option.some.inj e1).symm) hB
      rw [show (Blk.cells a.g e (Det.putAt c a.o vs) fz ro).gen = a.g from rfl, Mu.put_same hm] at this
      exact ⟨w', r1, this⟩
    · simp at hs
  · simp at hs

/-! ### New blocks -/

theorem WRel.fresh (W : WRel μ w0 ng h w) (g : Nat) : μ h.n g = none := by
  cases e : μ h.n g with
  | none => rfl
  | some rb => exact absurd (W.dom _ _ _ e).2.1 (Nat.lt_irrefl _)

theorem WRel.le_new (W : WRel μ w0 ng h w) (rb : RB) : μ.le (μ.put h.n 0 rb) := by
  intro b g rb1 e
  unfold Mu.put
  split
  · rename_i hk; obtain ⟨rfl, rfl⟩ := hk; rw [W.fresh] at e; simp at e
  · exact e

theorem WRel.new' (W : WRel μ w0 ng h w) {w' : World} (B : Blk) (o : Obj) (n : Nat) (hch : Chg w w' w.heap.size o) (hsz : w.heap.size < w'.heap.size) (hg : B.gen = 0) (hro : B.ro = false) (hB : ORel μ n B o) :
    WRel (μ.put h.n 0 ⟨w.heap.size, n⟩) w0 ng (h.new B) w' ∧ Adv μ h w (μ.put h.n 0 ⟨w.heap.size, n⟩) (h.new B) w' := by
  have := W.upd h.n B ⟨w.heap.size, n⟩ o (h.get_new B) (fun k hk => h.get_new_ne k B hk) (by simp) (by simp) hch hsz hro (.inl ⟨rfl, .inl (Nat.le_refl _)⟩)
    (fun g rb1 e => by rw [W.fresh] at e; simp at e) (fun rb1 e => by rw [W.fresh] at e; simp at e) (by rw [hg]; exact hB.mono (W.le_new _))
  rw [hg] at this
  exact this

/-- A new block: of a world that may have drawn. -/
theorem WRel.new (W : WRel μ w0 ng h w) (w1 : World) (hw : w1.heap = w.heap) (ho : w1.os = w.os) (ht : w1.tape = w.tape) (hu : w1.output = w.output) (B : Blk) (o : Obj) (n : Nat) (hg : B.gen = 0) (hro : B.ro = false) (hB : ORel μ n B o) :
    WRel (μ.put h.n 0 ⟨w.heap.size, n⟩) w0 ng (h.new B) (w1.alloc o) ∧ Adv μ h w (μ.put h.n 0 ⟨w.heap.size, n⟩) (h.new B) (w1.alloc o) := by
  have hch : Chg w (w1.alloc o) w.heap.size o := by
    have := (Chg.alloc w1 o).drew w hw.symm ho.symm ht.symm hu.symm
    rw [hw] at this
    exact this
  have := W.upd h.n B ⟨w.heap.size, n⟩ o (h.get_new B) (fun k hk => h.get_new_ne k B hk) (by simp) (by simp) hch (by simp [hw]) hro (.inl ⟨rfl, .inl (Nat.le_refl _)⟩)
    (fun g rb1 e => by rw [W.fresh] at e; simp at e) (fun rb1 e => by rw [W.fresh] at e; simp at e) (by rw [hg]; exact hB.mono (W.le_new _))
  rw [hg] at this
  exact this

end
end Go.Det

/- How a function of the given program is turned into the deterministic machine's form; a function without an equal there is turned into none. -/
set_option linter.unusedVariables false
set_option linter.unusedSimpArgs false
set_option linter.unusedSectionVars false
namespace Go.Det

mutual
def ofVal : Nat → Value → Option AV
  | 0, _ => none
  | n + 1, v => match v with
    | .bool b => some (.bool b)
    | .int k x => some (.int k x)
    | .string s => some (.str s.data.toList)
    | .pointer none => some .nilp
    | .slice none 0 0 => some .nils
    | .map none => some .nilm
    | .func f a b => match ofVals n a.toList, ofVals n b.toList with
      | some a, some b => match f with
        | .yield _ => none
        | f => some (.fn f a b)
      | _, _ => none
    | .nilFunc => some .nilf
    | .nilIface => some .nili
    | .iface t v => (ofVal n v).map (.ifc t)
    | .agg cs => (ofVals n cs.toList).map .agg
    | .tuple vs => (ofVals n vs.toList).map .tup
    | _ => none
def ofVals : Nat → List Value → Option (List AV)
  | 0, _ => none
  | _ + 1, [] => some []
  | n + 1, v :: l => match ofVal n v, ofVals n l with
    | some a, some r => some (a :: r)
    | _, _ => none
end

def big : Nat := 100000

def ofOpd (P : Program) : Operand → Option IX
  | .tmp t => some (.t t)
  | .const v => (ofVal big v).map .c
  | .global g => if g < P.globals.size then some (.g g) else none
  | .func f => some (.c (.fn (.func f) [] []))

def ofOpds (P : Program) : List Operand → Option (List IX)
  | [] => some []
  | x :: l => match ofOpd P x, ofOpds P l with
    | some a, some r => some (a :: r)
    | _, _ => none

def ofOpt (P : Program) : Option Operand → Option (Option IX)
  | none => some none
  | some x => (ofOpd P x).map some

def aggT (P : Program) (t : TypeId) : Option (Option Nat) :=
  match P.underlying t, P.info? t with
  | some (.struct _), some i => some (some i.size)
  | some (.array _ _), some i => some (some i.size)
  | some _, some _ => some none
  | _, _ => none

def sizeT (P : Program) (t : TypeId) : Option Nat := (P.info? t).map (·.size)

def zeroT (P : Program) (t : TypeId) : Option AV :=
  match P.info? t with
  | some i => i.zero.bind (ofVal big)
  | none => none

def eqdFs (P : Program) (r : TypeId → Option EqD) : List Field → Option (List (Nat × Option Nat × EqD))
  | [] => some []
  | f :: l => if f.name == "_" then eqdFs P r l else match aggT P f.type, r f.type, eqdFs P r l with
    | some a, some d, some q => some ((f.offset, a, d) :: q)
    | _, _, _ => none

def eqdOf (P : Program) : Nat → TypeId → Option EqD
  | 0, _ => none
  | n + 1, t => match P.underlying t with
    | some .bool => some .bo
    | some (.int _) => some .num
    | some .string => some .str
    | some (.pointer e) => match sizeT P e with
      | some (_ + 1) => some .ptr
      | _ => none
    | some (.slice _) => some .sl
    | some (.map _ _) => some .map
    | some (.func _ _ _) => some .fn
    | some (.interface _) => some .ifc
    | some (.struct fs) =>
      if P.stoodInHeld t then none else
      (eqdFs P (eqdOf P n) fs.toList).map .st
    | some (.array len e) => match sizeT P e, aggT P e, eqdOf P n e with
      | some sz, some ag, some d => some (.arr len sz ag.isSome d)
      | _, _, _ => none
    | _ => none

def partsOf (P : Program) (places : Nat → Option (Nat × Nat)) : List (Nat × Operand) → Option (List (Nat × Nat × IX))
  | [] => some []
  | (i, x) :: l => match places i, ofOpd P x, partsOf P places l with
    | some (off, sz), some x, some r => some ((off, sz, x) :: r)
    | _, _, _ => none

def srcOk : TypeDesc → Nat → Bool
  | .slice _, _ => true
  | .string, sz => sz == 1
  | _, _ => false

def isStrD : TypeDesc → Bool
  | .string => true
  | _ => false

def compCall (P : Program) (c : Call) (ty : TypeId) : Option IOp :=
  match ofOpds P c.args.toList with
  | none => none
  | some args =>
    match c.callee with
    | .value (.func f) => match P.funcs[f]? with
      | some fn => if fn.body.isSome && fn.name != "runtime.NumGoroutine" then some (.call f args) else none
      | none => none
    | .value f => (ofOpd P f).map fun f => .callv f args
    | .invoke _ _ => none
    | .builtin b =>
      match b, args, c.argTypes.toList with
      | .append, [x, y], [t, u] =>
        match P.underlying t, P.underlying u with
        | some (.slice e), some d =>
          match P.info? e with
          | some i => match i.zero.bind (ofVal big) with
            | some z => if z.cells.length == i.size && 0 < i.size && srcOk d i.size then some (.app e i.size i.bytes (isStrD d) x y) else none
            | none => none
          | none => none
        | _, _ => none
      | .len, [x], [t] => match P.underlying t with
        | some .string => some (.len true x)
        | some (.slice _) => some (.len false x)
        | some (.array n _) => some (.mv (.c (.int .i64 n)))
        | _ => none
      | .copy, [x, y], [t, _] => match P.underlying t with
        | some (.slice e) => (sizeT P e).map fun sz => .copy sz x y
        | _ => none
      | .min, [x, y], _ => some (.min x y)
      | .max, [x, y], _ => some (.max x y)
      | _, _, _ => none

def aggDesc : Option TypeDesc → Bool
  | some (.struct _) => true
  | some (.array _ _) => true
  | _ => false

def isLit : Operand → Bool
  | .const _ => true
  | _ => false

def compOp (P : Program) (o : Op) (ty : TypeId) : Option IOp :=
  match o with
  | .move x | .assign x => (ofOpd P x).bind fun x => some (.mv x)
  | .pick c a b => (ofOpd P c).bind fun c => (ofOpd P a).bind fun a => (ofOpd P b).bind fun b => some (.pick c a b)
  | .alloc e => (zeroT P e).map fun z => .new e (.c z)
  | .box e v => (ofOpd P v).bind fun v => some (.new e v)
  | .build t ps => match P.underlying t, zeroT P t with
    | some (.struct fs), some z =>
      if fs.toList.all fun f => (sizeT P f.type).isSome then
      (partsOf P (fun i => match fs[i]? with
        | some f => (sizeT P f.type).map fun s => (f.offset, s)
        | none => none) ps.toList).map fun ps => .build z.cells ps
      else none
    | some (.array _ e), some z => match sizeT P e with
      | some s => (partsOf P (fun i => some (i * s, s)) ps.toList).map fun ps => .build z.cells ps
      | none => none
    | _, _ => none
  | .buildSlice t n ps => match P.underlying t with
    | some (.slice e) => match sizeT P e, zeroT P e with
      | some s, some z =>
        if n * s ≤ 16777216 && z.cells.length == s then (partsOf P (fun i => some (i * s, s)) ps.toList).map fun ps => .bsl e (List.replicate n z.cells).flatten n ps else none
      | _, _ => none
    | _ => none
  | .load t a => (ofOpd P a).bind fun a => (aggT P t).map fun g => .ld g a
  | .store t a v => (ofOpd P a).bind fun a => (ofOpd P v).bind fun v => (sizeT P t).map fun n => .st n a v
  | .nilCheck x => (ofOpd P x).bind fun x => some (.nilck x)
  | .binOp op t x y _ => match P.underlying t with
    | some (.int _) => (ofOpd P x).bind fun x => (ofOpd P y).bind fun y => some (.bin op x y)
    | some .string => (ofOpd P x).bind fun x => (ofOpd P y).bind fun y => some (.bin op x y)
    | d => if aggDesc d && P.eqGuardType P.depth t then none else match op with
      | .eql => (ofOpd P x).bind fun a => (ofOpd P y).bind fun b => (eqdOf P 20 t).map fun d => .eq d false (isLit x || isLit y) a b
      | .neq => (ofOpd P x).bind fun a => (ofOpd P y).bind fun b => (eqdOf P 20 t).map fun d => .eq d true (isLit x || isLit y) a b
      | _ => none
  | .unOp op _ x => (ofOpd P x).bind fun x => some (.un op x)
  | .convert s d x => match P.underlying s, P.underlying d with
    | some (.int _), some (.int k) => (ofOpd P x).bind fun x => some (.cvI k x)
    | some (.int _), some .string => (ofOpd P x).bind fun x => some (.cvIS x)
    | some .string, some .string => (ofOpd P x).bind fun x => some (.cvSS x)
    | some .string, some (.slice e) => match P.underlying e with
      | some (.int .u8) => (ofOpd P x).bind fun x => some (.cvSB e x)
      | _ => none
    | some (.slice e), some .string => match P.underlying e with
      | some (.int .u8) => (ofOpd P x).bind fun x => some (.cvBS x)
      | _ => none
    | some (.slice _), some (.slice e) => match P.underlying e with
      | some (.int .u8) => if s == d then (ofOpd P x).bind fun x => some (.cvBB x) else none
      | _ => none
    | _, _ => none
  | .sliceToArrayPointer d x => match P.underlying d with
    | some (.array n _) => (ofOpd P x).bind fun x => some (.sap n x)
    | _ => none
  | .makeInterface t x => match P.underlying t with
    | some (.interface _) => none
    | some _ => (ofOpd P x).bind fun x => some (.mkI t x)
    | none => none
  | .makeFunc f a c => match f with
    | .yield _ => none
    | f => (ofOpds P a.toList).bind fun a => (ofOpds P c.toList).map fun c => .mkF f a c
  | .makeMap t none => some .mkM
  | .makeSlice t l c => match P.underlying t with
    | some (.slice e) => match P.info? e, zeroT P e with
      | some i, some z => if z.cells.length == i.size && 0 < i.size then (ofOpd P l).bind fun l => (ofOpd P c).bind fun c => some (.mkS e z.cells i.bytes l c) else none
      | _, _ => none
    | _ => none
  | .slice t x lo hi mx => (ofOpd P x).bind fun x => (ofOpt P lo).bind fun lo => (ofOpt P hi).bind fun hi => (ofOpt P mx).bind fun mx =>
    match P.underlying t with
    | some .string => if mx.isNone then some (.slS x lo hi) else none
    | some (.slice e) => (sizeT P e).map fun s => .slL s x lo hi mx
    | some (.array n e) => (sizeT P e).map fun s => .slA n s x lo hi mx
    | some (.pointer arr) => match P.underlying arr with
      | some (.array n e) => (sizeT P e).map fun s => .slA n s x lo hi mx
      | _ => none
    | _ => none
  | .fieldAddr t x i => match P.underlying t with
    | some (.struct fs) => match fs[i]? with
      | some f => match sizeT P f.type with
        | some (_ + 1) => (ofOpd P x).bind fun x => some (.fa f.offset x)
        | _ => none
      | none => none
    | _ => none
  | .field t x i => match P.underlying t with
    | some (.struct fs) => match fs[i]? with
      | some f => (aggT P f.type).bind fun g => (ofOpd P x).bind fun x => some (.fd f.offset g x)
      | none => none
    | _ => none
  | .indexAddr t x i => match P.underlying t with
    | some (.slice e) => (sizeT P e).bind fun s => (ofOpd P x).bind fun x => (ofOpd P i).bind fun i => some (.ia s x i)
    | some (.array n e) => (sizeT P e).bind fun s => (ofOpd P x).bind fun x => (ofOpd P i).bind fun i => some (.iaA n s x i)
    | _ => none
  | .index t x i => match P.underlying t with
    | some .string => (ofOpd P x).bind fun x => (ofOpd P i).bind fun i => some (.ixS x i)
    | some (.array n e) => (sizeT P e).bind fun s => (aggT P e).bind fun g => (ofOpd P x).bind fun x => (ofOpd P i).bind fun i => some (.ixA n s g.isSome x i)
    | _ => none
  | .extract x i => (ofOpd P x).bind fun x => some (.ext x i)
  | .range t x => match P.underlying t with
    | some .string => (ofOpd P x).bind fun x => some (.rng x)
    | _ => none
  | .next x true => (ofOpd P x).bind fun x => some (.next x)
  | .lookup t x i ok => if true then none else match P.underlying t with
    | some (.map k e) => match P.underlying k with
      | some .string => (zeroT P e).bind fun z => (ofOpd P x).bind fun x => (ofOpd P i).bind fun i => some (.look .str z ok x i)
      | some (.int _) => (zeroT P e).bind fun z => (ofOpd P x).bind fun x => (ofOpd P i).bind fun i => some (.look .num z ok x i)
      | _ => none
    | _ => none
  | .mapUpdate t m k v | .insert t m k v => if true then none else match P.underlying t with
    | some (.map kt _) => match P.underlying kt with
      | some .string => (ofOpd P m).bind fun m => (ofOpd P k).bind fun k => (ofOpd P v).bind fun v => some (.upd .str m k v)
      | some (.int _) => (ofOpd P m).bind fun m => (ofOpd P k).bind fun k => (ofOpd P v).bind fun v => some (.upd .num m k v)
      | _ => none
    | _ => none
  | .call c => compCall P c ty
  | .panic _ => some .fail
  | _ => none

def compOper (P : Program) (ops : Array Oper) (o : Oper) : Option IOper :=
  match compOp P o.op o.type with
  | none => none
  | some op => match o.guard with
    | none => some ⟨o.dst, op, none⟩
    | some (j, w) => match (ops[j]?).bind (·.dst) with
      | some d => some ⟨o.dst, op, some (d, w)⟩
      | none => none

def compOpers (P : Program) (ops : Array Oper) : List Oper → Option (List IOper)
  | [] => some []
  | o :: l => match compOper P ops o, compOpers P ops l with
    | some a, some r => some (a :: r)
    | _, _ => none

/-- Operations that touch no memory; that make some; that read some. All others are acts. -/
def isPure : IOp → Bool
  | .mv _ | .pick .. | .build .. | .nilck _ | .bin .. | .eq .. | .un .. | .cvI .. | .cvSS _ | .cvIS _ | .mkI .. | .mkF .. | .slS .. | .slL .. | .slA .. | .fa .. | .fd .. | .ia .. | .iaA .. | .ixS .. | .ixA .. | .ext .. | .sap .. | .len .. | .min .. | .max .. => true
  | _ => false

def isAl : IOp → Bool
  | .new .. | .bsl .. | .mkS .. | .cvSB .. | .mkM | .rng _ => true
  | _ => false

def isRd : IOp → Bool
  | .ld .. | .cvBS _ => true
  | _ => false

def isAct (x : IOp) : Bool := !(isPure x || isAl x || isRd x)

/-- The slots that an operation names. -/
def namesOf (ops : Array Oper) (o : Oper) : List Tmp :=
  (match o.guard with
    | some (j, _) => ((ops[j]?).bind (·.dst)).toList
    | none => []) ++ o.op.operands.toList.filterMap fun | .tmp t => some t | _ => none

/-- Those that stand ahead of an operation in every order, as the bits of a number. -/
def maskOf (acc : List Nat) (es : List Edge) : Nat :=
  es.foldl (fun s e => if Region.binds .any e then s ||| 2 ^ e.on ||| acc.getD e.on 0 else s) 0

def befL : List Oper → List Nat → List Nat
  | [], acc => acc
  | o :: l, acc => befL l (acc ++ [maskOf acc o.after.toList])

/-- One order: what is no act as early as it may stand. -/
def greedy (l : List (Nat × Bool × Nat)) : Nat → List Nat → Nat → List Nat
  | 0, _, _ => []
  | f + 1, todo, done =>
    let ready (j : Nat) : Bool := match l[j]? with
      | some (_, _, direct) => direct &&& done == direct
      | none => false
    match todo.find? fun j => ready j && (match l[j]? with | some (_, act, _) => !act | none => false) with
    | some j => j :: greedy l f (todo.filter (· != j)) (done ||| 2 ^ j)
    | none => match todo.find? ready with
      | some j => j :: greedy l f (todo.filter (· != j)) (done ||| 2 ^ j)
      | none => []

def directOf (o : Oper) : Nat := o.after.toList.foldl (fun s e => if Region.binds .any e then s ||| 2 ^ e.on else s) 0

def mkD (l : List IOper) (masks : List Nat) (j : Nat) : DOper := { l.getD j default with act := isAct (l.getD j default).op, id := j, mask := masks.getD j 0 }

/-- Every two places of the order. -/
def pairsOk (ops : Array Oper) (dl : List DOper) : Bool :=
  dl.zipIdx.all fun (x, p) => dl.zipIdx.all fun (y, q) =>
    -- another place is another operation
    (p == q || x.id != y.id) &&
    -- a slot that one writes and the other names, or writes
    (p == q || (match x.dst with
      | some d => !(y.dst == some d || (match ops[y.id]? with | some o => (namesOf ops o).contains d | none => true)) || y.mask.testBit x.id || x.mask.testBit y.id
      | none => true)) &&
    -- what stands ahead in every order does so in this one
    (!(p ≤ q) || !x.mask.testBit y.id) &&
    -- what stands behind an act does so in every order
    (!(p < q && x.act) || y.mask.testBit x.id)

def compDraw (P : Program) (ops : Array Oper) : Option (List DOper) :=
  match compOpers P ops ops.toList with
  | none => none
  | some l =>
    let masks := befL ops.toList []
    let ord := greedy ((ops.toList.zip l).map fun (o, x) => (0, isAct x.op, directOf o)) ops.size (List.range ops.size) 0
    let dl := ord.map (mkD l masks)
    if ord.length == ops.size && ord.all (· < ops.size) && (List.range ops.size).all (fun j => ord.contains j) && ops.toList.all (fun o => o.after.all fun e => !Region.binds .any e || e.on < ops.size) && pairsOk ops dl then some dl else none

def compCode (P : Program) : Code → Option IC
  | .skip => some .skip
  | .region _ ops false => (compOpers P ops ops.toList).map .region
  | .region _ ops true => (compDraw P ops).map .draw
  | .seq a b => match compCode P a, compCode P b with
    | some a, some b => some (.seq a b)
    | _, _ => none
  | .cond c a b => match ofOpd P c, compCode P a, compCode P b with
    | some c, some a, some b => some (.cond c a b)
    | _, _, _ => none
  | .block i a => (compCode P a).map (.block i)
  | .loop a => (compCode P a).map .loop
  | .exit i => some (.exit i)
  | .scope a => (compCode P a).map .scope
  | .label l => some (.label l)
  | .goto l => some (.goto l)
  | .ret => some .ret
  | _ => none

def compRes (P : Program) : List ResultVar → Option (List (Nat × Option (Option Nat)))
  | [] => some []
  | .tmp t :: l => (compRes P l).map ((t, none) :: ·)
  | .cell t ty :: l => match aggT P ty, compRes P l with
    | some g, some r => some ((t, some g) :: r)
    | _, _ => none

def compFunc (P : Program) (f : Func) : Option IFunc :=
  match f.body with
  | none => none
  | some c => match compCode P c, compRes P f.results.toList with
    | some c, some r => some ⟨f.ntmps, r, c, false⟩
    | _, _ => none

end Go.Det

/- The deterministic machine's operations that touch no memory: each against the real one. -/
set_option linter.unusedVariables false
set_option linter.unusedSimpArgs false
set_option linter.unusedSectionVars false
namespace Go.Det
open Go.RowKit

section
variable {P : Program} {μ : Mu} {w : World}

/-- A plain step: the answer, the world as it was. -/
def Pl (P : Program) (μ : Mu) (w : World) (s : Sem Value) (v : AV) : Prop := ∃ v', s.run P w = .ok v' w ∧ VRel μ v v'

theorem run_info {t : TypeId} {i : TypeInfo} (h : P.info? t = some i) : (typeInfo t).run P w = .ok i w := by simp [typeInfo, h]
theorem run_size {t : TypeId} {n : Nat} (h : sizeT P t = some n) : (sizeOf t).run P w = .ok n w := by
  unfold sizeT at h
  obtain ⟨i, h1, rfl⟩ := Option.map_eq_some_iff.1 h
  simp [sizeOf, run_info h1]

theorem aggT_none {t : TypeId} (h : aggT P t = some none) : (isAgg t).run P w = .ok false w := by
  unfold aggT at h
  split at h <;> simp at h
  rename_i d i h1 h2 h3 h4
  simp only [isAgg, Sem.run_bind, run_underlying h3, Result.andThen_ok]
  cases d <;> first | rfl | (exact absurd h3 (h1 _ _)) | (exact absurd h3 (h2 _ _ _))
theorem aggT_some {t : TypeId} {n : Nat} (h : aggT P t = some (some n)) : (isAgg t).run P w = .ok true w ∧ (sizeOf t).run P w = .ok n w := by
  unfold aggT at h
  split at h <;> simp at h
  · rename_i h1 h2
    subst h
    exact ⟨by simp [isAgg, run_underlying h1], by simp [sizeOf, run_info h2]⟩
  · rename_i h1 h2
    subst h
    exact ⟨by simp [isAgg, run_underlying h1], by simp [sizeOf, run_info h2]⟩

theorem bytes_list (x : ByteArray) : x.toList = x.data.toList := by
  have go : ∀ (n i : Nat) (acc : List UInt8), x.size - i = n → ByteArray.toList.loop x i acc = acc.reverse ++ x.data.toList.drop i := by
    intro n
    induction n with
    | zero =>
      intro i acc h
      unfold ByteArray.toList.loop
      rw [if_neg (by omega), List.drop_eq_nil_of_le (by simpa using (by omega : x.size ≤ i)), List.append_nil]
    | succ n ih =>
      intro i acc h
      have hlt : i < x.data.toList.length := by simpa using (by omega : i < x.size)
      unfold ByteArray.toList.loop
      rw [if_pos (by omega), ih (i + 1) _ (by omega), List.drop_eq_getElem_cons hlt]
      have : x.get! i = x.data.toList[i] := by
        show x.data[i]! = _
        simp only [Array.length_toList] at hlt
        simp [getElem!_pos x.data i hlt]
      simp [this]
  exact (go x.size 0 [] (by simp)).trans (by simp)

theorem ofVal_rel (μ : Mu) : ∀ (n : Nat), (∀ v a, ofVal n v = some a → VRel μ a v) ∧ (∀ l a, ofVals n l = some a → VRels μ a l)
  | 0 => ⟨by intro v a h; simp [ofVal] at h, by intro v a h; simp [ofVals] at h⟩
  | n + 1 => by
    obtain ⟨ih1, ih2⟩ := ofVal_rel μ n
    refine ⟨?_, ?_⟩
    · intro v a h
      cases v with
      | bool b => simp only [ofVal, Option.some.injEq] at h; subst h; rfl
      | int k x => simp only [ofVal, Option.some.injEq] at h; subst h; rfl
      | string s => simp only [ofVal, Option.some.injEq] at h; subst h; simp [VRel]
      | pointer a => cases a <;> simp only [ofVal, Option.some.injEq, reduceCtorEq] at h; subst h; rfl
      | slice a len cap =>
        cases a with
        | none => cases len <;> cases cap <;> simp only [ofVal, Option.some.injEq, reduceCtorEq] at h; subst h; rfl
        | some a => simp [ofVal] at h
      | map r => cases r <;> simp only [ofVal, Option.some.injEq, reduceCtorEq] at h; subst h; rfl
      | func f x y =>
        simp only [ofVal] at h
        split at h
        · rename_i a b h1 h2
          split at h
          · simp at h
          · simp only [Option.some.injEq] at h; subst h; exact ⟨_, _, rfl, ih2 _ _ h1, ih2 _ _ h2⟩
        · simp at h
      | nilFunc => simp only [ofVal, Option.some.injEq] at h; subst h; rfl
      | nilIface => simp only [ofVal, Option.some.injEq] at h; subst h; rfl
      | iface t v => simp only [ofVal, Option.map_eq_some_iff] at h; obtain ⟨a, h1, rfl⟩ := h; exact ⟨_, rfl, ih1 _ _ h1⟩
      | agg cs => simp only [ofVal, Option.map_eq_some_iff] at h; obtain ⟨a, h1, rfl⟩ := h; exact ⟨_, rfl, ih2 _ _ h1⟩
      | tuple cs => simp only [ofVal, Option.map_eq_some_iff] at h; obtain ⟨a, h1, rfl⟩ := h; exact ⟨_, rfl, ih2 _ _ h1⟩
      | float k b => simp [ofVal] at h
      | complex k a b => simp [ofVal] at h
      | chan r => simp [ofVal] at h
    · intro l a h
      cases l with
      | nil => simp only [ofVals, Option.some.injEq] at h; subst h; rfl
      | cons v l =>
        simp only [ofVals] at h
        split at h
        · rename_i x r h1 h2
          simp only [Option.some.injEq] at h; subst h; exact ⟨_, _, rfl, ih1 _ _ h1, ih2 _ _ h2⟩
        · simp at h

theorem zeroT_rel {t : TypeId} {z : AV} (h : zeroT P t = some z) : ∃ v, (zeroValue t).run P w = .ok v w ∧ VRel μ z v := by
  unfold zeroT at h
  split at h
  · rename_i i h1
    obtain ⟨v, h2, h3⟩ := Option.bind_eq_some_iff.1 h
    exact ⟨v, by simp [zeroValue, run_info h1, h2], (ofVal_rel μ big).1 _ _ h3⟩
  · simp at h

theorem cells_rel {a : AV} {v : Value} (h : VRel μ a v) : VRels μ a.cells v.cells.toList := by
  cases a with
  | agg cs => obtain ⟨vs, rfl, h⟩ := h; exact h
  | _ => 
    have hv : v.cells = #[v] := by
      first
        | (cases h; rfl)
        | (obtain ⟨rb, _, rfl⟩ := h; rfl)
        | (obtain ⟨x, y, rfl, _⟩ := h; rfl)
        | (rename_i a n c; cases c with
           | ex c => rcases h with ⟨rb, _, rfl, _⟩ | ⟨_, _, ad, rfl⟩ <;> rfl
           | op e => obtain ⟨rb, o, c, _, rfl, _⟩ := h; rfl)
        | (obtain ⟨x, rfl, _⟩ := h; rfl)
        | (rename_i a n c; cases c <;> first | (obtain ⟨rb, _, rfl, _⟩ := h; rfl) | (obtain ⟨rb, o, c, _, rfl, _⟩ := h; rfl))
    rw [hv]; exact ⟨v, [], rfl, h, rfl⟩

theorem part_rel {t : TypeId} {sz : Option Nat} (ht : aggT P t = some sz) {cs : List AV} {vs : Array Value} (hc : VRels μ cs vs.toList) {off : Nat} {v : AV} (hp : Det.part cs off sz = some v) :
    Pl P μ w (Go.part t vs off) v := by
  cases sz with
  | none =>
    obtain ⟨u, h1, h2⟩ := hc.get hp
    have h1' : vs[off]? = some u := by simpa using h1
    exact ⟨u, by simp [Go.part, aggT_none ht, h1'], h2⟩
  | some n =>
    simp only [Det.part, Option.some.injEq] at hp
    subst hp
    refine ⟨.agg (vs.extract off (off + n)), by simp [Go.part, (aggT_some ht).1, (aggT_some ht).2], _, rfl, ?_⟩
    have := (hc.drop off).take n
    rw [Array.toList_extract]
    simpa [List.extract_eq_take_drop] using this

/-! ### Numbers, strings -/

theorem ba_size (x : List UInt8) : (⟨x.toArray⟩ : ByteArray).size = x.length := rfl
theorem ba_append (x y : List UInt8) : (⟨x.toArray⟩ : ByteArray) ++ ⟨y.toArray⟩ = ⟨(x ++ y).toArray⟩ := by
  apply ByteArray.ext; simp [ByteArray.data_append]
theorem ba_extract (x : List UInt8) (l h : Nat) : (⟨x.toArray⟩ : ByteArray).extract l h = ⟨((x.take h).drop l).toArray⟩ := by
  apply ByteArray.ext
  simp [ByteArray.data_extract, List.drop_take]

theorem binop_rel {op : BinOp} {a b r : AV} (hr : binop op a b = some r) {a' b' : Value} (ha : VRel μ a a') (hb : VRel μ b b') (t : TypeId) (X Y : Operand) :
    Pl P μ w (do eqGuard op t X Y a' b'; binOp op t a' b') r := by
  cases a <;> cases b <;> simp only [binop, reduceCtorEq] at hr
  · rename_i k x k' y
    cases ha; cases hb
    cases op <;> simp only [] at hr <;> (try (split at hr <;> simp only [reduceCtorEq] at hr)) <;>
      simp only [binInt, shInt] at hr <;> (try (split at hr <;> simp only [reduceCtorEq] at hr)) <;> (try (simp only [Option.some.injEq, reduceCtorEq] at hr)) <;> (try subst hr) <;>
      simp_all [Pl, eqGuard, binOp, Op.intArith, Op.intDiv, Op.intBits, Op.intCmp, Op.shift, VRel]
    all_goals first
      | (obtain ⟨_, rfl⟩ := hr; rfl)
      | (obtain ⟨_, _, rfl⟩ := hr; rfl)
      | (obtain ⟨h0, rfl⟩ := hr; rw [if_neg (by omega)]; exact ⟨_, rfl, rfl⟩)
  · rename_i x y
    cases ha; cases hb
    cases op <;> simp only [binStr, Option.some.injEq, reduceCtorEq] at hr <;> (try (split at hr <;> simp only [Option.some.injEq, reduceCtorEq] at hr)) <;> (try subst hr) <;>
      simp_all [Pl, eqGuard, binOp, Op.stringOp, VRel, bytes_list]
    rename_i h
    rw [ba_size, ba_size, if_neg (by omega), ba_append]

theorem unop_rel {op : UnOp} {a r : AV} (hr : unop op a = some r) {a' : Value} (ha : VRel μ a a') : Pl P μ w (Op.unary op a') r := by
  cases op <;> cases a <;> simp only [unop, binInt, Option.some.injEq, reduceCtorEq] at hr <;> subst hr <;> cases ha <;>
    simp [Pl, Op.unary, Op.intArith, Op.intBits, VRel]

theorem asI_rel {a : AV} {n : Int} (h : asI a = some n) {v : Value} (hv : VRel μ a v) : ∃ k, v = .int k n := by
  cases a <;> simp only [asI, Option.some.injEq, reduceCtorEq] at h
  subst h; cases hv; exact ⟨_, rfl⟩

/-! ### Held against each other -/

def EqD.flat : EqD → Bool
  | .st _ => false
  | .arr .. => false
  | _ => true

theorem sl_of {a : AA} {n : Nat} {c : Cp} {v : Value} (h : VRel μ (.sl a n c) v) : ∃ ad k, v = .slice (some ad) n k := by
  cases c with
  | ex c =>
    rcases h with ⟨rb, _, rfl, _⟩ | ⟨rfl, _, ad, rfl⟩
    · exact ⟨_, _, rfl⟩
    · exact ⟨_, _, rfl⟩
  | op e => obtain ⟨rb, o, c, _, rfl, _⟩ := h; exact ⟨_, _, rfl⟩

theorem ba_beq (x y : List UInt8) : ((⟨x.toArray⟩ : ByteArray) == ⟨y.toArray⟩) = (x == y) := by
  show (x.toArray == y.toArray) = (x == y)
  simp

set_option maxHeartbeats 4000000 in
theorem eqv_rel {d : EqD} (hd : d.flat = true) {n f D : Nat} {t : TypeId} (ht : eqdOf P n t = some d) {a b : AV} {r : Bool} (hr : eqv f d a b = some r) {a' b' : Value} (ha : VRel μ a a') (hb : VRel μ b b') :
    (Op.equalIn (D + 1) t a' b').run P w = .ok r w := by
  cases f with
  | zero => simp [eqv] at hr
  | succ f =>
    cases n with
    | zero => simp [eqdOf] at ht
    | succ n =>
      simp only [eqdOf] at ht
      split at ht
      · rename_i hu
        simp only [Option.some.injEq] at ht; subst ht
        cases a <;> cases b <;> simp only [eqv, Option.some.injEq, reduceCtorEq] at hr
        subst hr; cases ha; cases hb
        simp [Op.equalIn, run_underlying hu]
      · rename_i hu
        simp only [Option.some.injEq] at ht; subst ht
        cases a <;> cases b <;> simp only [eqv, reduceCtorEq] at hr
        split at hr
        · rename_i hk; subst hk
          simp only [Option.some.injEq] at hr
          subst hr; cases ha; cases hb
          simp [Op.equalIn, run_underlying hu]
        · simp at hr
      · rename_i hu
        simp only [Option.some.injEq] at ht; subst ht
        cases a <;> cases b <;> simp only [eqv, Option.some.injEq, reduceCtorEq] at hr
        subst hr; cases ha; cases hb
        simp [Op.equalIn, run_underlying hu, ba_beq]
      · rename_i e hu
        split at ht
        · rename_i k hs
          simp only [Option.some.injEq] at ht; subst ht
          cases a <;> cases b <;> simp only [eqv, Option.some.injEq, reduceCtorEq] at hr
          · subst hr; cases ha; cases hb; simp [Op.equalIn, run_underlying hu]
          · subst hr; cases ha; obtain ⟨rb, _, rfl⟩ := hb; simp [Op.equalIn, run_underlying hu]
          · subst hr; cases hb; obtain ⟨rb, _, rfl⟩ := ha; simp [Op.equalIn, run_underlying hu]
          · rename_i x y
            split at hr
            · rename_i he
              simp only [Bool.and_eq_true, beq_iff_eq] at he
              simp only [Option.some.injEq] at hr
              subst hr
              obtain ⟨rb, h1, rfl⟩ := ha
              obtain ⟨rb', h2, rfl⟩ := hb
              rw [← he.1, ← he.2, h1] at h2
              cases h2
              simp only [Op.equalIn, Sem.run_bind, run_underlying hu, Result.andThen_ok, run_size hs, sameAddr]
              by_cases ho : x.o = y.o
              · simp [ho]
              · have hne : (⟨rb.r, x.o, none⟩ : Addr) ≠ ⟨rb.r, y.o, none⟩ := by simp [ho]
                simp [beq_eq_false_iff_ne.2 hne, beq_eq_false_iff_ne.2 ho]
            · simp at hr
        · simp at ht
      · rename_i hu
        simp only [Option.some.injEq] at ht; subst ht
        cases a <;> cases b <;> simp only [eqv, Option.some.injEq, reduceCtorEq] at hr
        · subst hr; cases ha; cases hb; simp [Op.equalIn, run_underlying hu]
        · subst hr; cases ha; obtain ⟨_, _, rfl⟩ := sl_of hb; simp [Op.equalIn, run_underlying hu]
        · subst hr; cases hb; obtain ⟨_, _, rfl⟩ := sl_of ha; simp [Op.equalIn, run_underlying hu]
      · rename_i hu
        simp only [Option.some.injEq] at ht; subst ht
        cases a <;> cases b <;> simp only [eqv, Option.some.injEq, reduceCtorEq] at hr
        · subst hr; cases ha; cases hb; simp [Op.equalIn, run_underlying hu]
        · subst hr; cases ha; obtain ⟨rb, _, rfl⟩ := hb; simp [Op.equalIn, run_underlying hu]
        · subst hr; cases hb; obtain ⟨rb, _, rfl⟩ := ha; simp [Op.equalIn, run_underlying hu]
      · rename_i hu
        simp only [Option.some.injEq] at ht; subst ht
        cases a <;> cases b <;> simp only [eqv, Option.some.injEq, reduceCtorEq] at hr
        · subst hr; cases ha; cases hb; simp [Op.equalIn, run_underlying hu]
        · subst hr; cases ha; obtain ⟨_, _, rfl, _⟩ := hb; simp [Op.equalIn, run_underlying hu]
        · subst hr; cases hb; obtain ⟨_, _, rfl, _⟩ := ha; simp [Op.equalIn, run_underlying hu]
      · rename_i hu
        simp only [Option.some.injEq] at ht; subst ht
        cases a <;> cases b <;> simp only [eqv, Option.some.injEq, reduceCtorEq] at hr
        · subst hr; cases ha; cases hb; simp [Op.equalIn, run_underlying hu]
        · subst hr; cases ha; obtain ⟨_, rfl, _⟩ := hb; simp [Op.equalIn, run_underlying hu]
        · subst hr; cases hb; obtain ⟨_, rfl, _⟩ := ha; simp [Op.equalIn, run_underlying hu]
      · split at ht
        · simp at ht
        · obtain ⟨_, _, rfl⟩ := Option.map_eq_some_iff.1 ht; simp [EqD.flat] at hd
      · split at ht
        · simp only [Option.some.injEq] at ht; subst ht; simp [EqD.flat] at hd
        · simp at ht
      · simp at ht

/-! Arrays and structs, element by element. -/

theorem agg_of {cs : List AV} {v : Value} (h : VRel μ (.agg cs) v) : ∃ vs, v = .agg vs ∧ VRels μ cs vs.toList := by
  obtain ⟨vs, h1, h2⟩ := h; exact ⟨vs, h1, h2⟩

theorem eqItems_rel {D sz : Nat} {ag : Option Nat} {e : TypeId} {d : EqD} (hs : sizeT P e = some sz) (ha : aggT P e = some ag)
    (IH : ∀ {f : Nat} {a b : AV} {r : Bool} {a' b' : Value}, eqv f d a b = some r → VRel μ a a' → VRel μ b b' → (Op.equalIn D e a' b').run P w = .ok r w)
    {xs ys : List AV} {xs' ys' : Array Value} (hx : VRels μ xs xs'.toList) (hy : VRels μ ys ys'.toList) :
    ∀ (m i f : Nat) {r : Bool}, eqArr f d sz ag.isSome xs ys i m = some r → (Op.eqItems D e (P.cellsOf e) xs' ys' (List.range' i m)).run P w = .ok r w := by
  have hcl : P.cellsOf e = sz := by
    unfold sizeT at hs
    obtain ⟨i, h1, h2⟩ := Option.map_eq_some_iff.1 hs
    simp [Program.cellsOf, h1, h2]
  have hag : (if ag.isSome = true then some sz else none) = ag := by
    unfold sizeT at hs
    obtain ⟨i, h1, h2⟩ := Option.map_eq_some_iff.1 hs
    unfold aggT at ha
    split at ha
    · rename_i j hj; rw [h1] at hj; cases hj; cases ha; simp [h2]
    · rename_i j hj; rw [h1] at hj; cases hj; cases ha; simp [h2]
    · cases ha; rfl
    · cases ha
  intro m
  induction m with
  | zero =>
    intro i f r h
    cases f with
    | zero => simp [eqArr] at h
    | succ f => simp only [eqArr, Option.some.injEq] at h; subst h; simp [Op.eqItems]
  | succ m ih =>
    intro i f r h
    cases f with
    | zero => simp [eqArr] at h
    | succ f =>
      simp only [eqArr] at h
      rw [hag] at h
      split at h
      · rename_i a b h1 h2
        obtain ⟨a', g1, k1⟩ := part_rel (P := P) (w := w) ha hx h1
        obtain ⟨b', g2, k2⟩ := part_rel (P := P) (w := w) ha hy h2
        rw [List.range'_succ]
        simp only [Op.eqItems, Sem.run_bind, hcl]
        rw [g1]
        simp only [Result.andThen_ok, g2]
        split at h
        · rename_i h3
          rw [IH h3 k1 k2]
          have := ih (i + 1) f h
          rw [hcl] at this
          simpa using this
        · rename_i hne
          rw [IH h k1 k2]
          cases r
          · simp
          · exact absurd h hne
      · simp at h

theorem eqFields_rel {D : Nat} {rr : TypeId → Option EqD}
    (IH : ∀ {t : TypeId} {d : EqD} {f : Nat} {a b : AV} {r : Bool} {a' b' : Value}, rr t = some d → eqv f d a b = some r → VRel μ a a' → VRel μ b b' → (Op.equalIn D t a' b').run P w = .ok r w)
    {xs ys : List AV} {xs' ys' : Array Value} (hx : VRels μ xs xs'.toList) (hy : VRels μ ys ys'.toList) :
    ∀ (fs : List Field) (l : List (Nat × Option Nat × EqD)) (f : Nat) {r : Bool}, eqdFs P rr fs = some l → eqSt f l xs ys = some r → (Op.eqFields D xs' ys' fs).run P w = .ok r w
  | [], l, f, r, hl, h => by
    simp only [eqdFs, Option.some.injEq] at hl
    subst hl
    cases f with
    | zero => simp [eqSt] at h
    | succ f => simp only [eqSt, Option.some.injEq] at h; subst h; simp [Op.eqFields]
  | g :: fs, l, f, r, hl, h => by
    simp only [eqdFs] at hl
    split at hl
    · rename_i hn
      have hn' : ¬ (g.name ≠ "_") := by simpa using hn
      simp only [Op.eqFields]
      rw [if_neg hn']
      exact eqFields_rel IH hx hy fs l f hl h
    · rename_i hn
      have hn' : g.name ≠ "_" := by simpa using hn
      split at hl
      · rename_i a d q h1 h2 h3
        simp only [Option.some.injEq] at hl
        subst hl
        cases f with
        | zero => simp [eqSt] at h
        | succ f =>
          simp only [eqSt] at h
          split at h
          · rename_i u v p1 p2
            obtain ⟨u', g1, k1⟩ := part_rel (P := P) (w := w) h1 hx p1
            obtain ⟨v', g2, k2⟩ := part_rel (P := P) (w := w) h1 hy p2
            simp only [Op.eqFields]
            rw [if_pos hn']
            simp only [Sem.run_bind, g1, Result.andThen_ok, g2]
            split at h
            · rename_i h4
              rw [IH h2 h4 k1 k2]
              have := eqFields_rel IH hx hy fs q f h3 h
              simpa using this
            · rename_i hne
              rw [IH h2 h k1 k2]
              cases r
              · simp
              · exact absurd h hne
          · simp at h
      · simp at hl

theorem eqv_all : ∀ (n : Nat) {D : Nat} {d : EqD} {f : Nat} {t : TypeId}, eqdOf P n t = some d → ∀ {a b : AV} {r : Bool}, eqv f d a b = some r → ∀ {a' b' : Value}, VRel μ a a' → VRel μ b b' → (Op.equalIn (D + n) t a' b').run P w = .ok r w
  | 0, D, d, f, t, ht, a, b, r, hr, a', b', ha, hb => by simp [eqdOf] at ht
  | n + 1, D, d, f, t, ht, a, b, r, hr, a', b', ha, hb => by
    by_cases hd : d.flat = true
    · exact eqv_rel (D := D + n) hd ht hr ha hb
    · have ht0 := ht
      simp only [eqdOf] at ht
      cases f with
      | zero => simp [eqv] at hr
      | succ f =>
        split at ht
        · simp only [Option.some.injEq] at ht; subst ht; exact absurd rfl hd
        · simp only [Option.some.injEq] at ht; subst ht; exact absurd rfl hd
        · simp only [Option.some.injEq] at ht; subst ht; exact absurd rfl hd
        · split at ht
          · simp only [Option.some.injEq] at ht; subst ht; exact absurd rfl hd
          · simp at ht
        · simp only [Option.some.injEq] at ht; subst ht; exact absurd rfl hd
        · simp only [Option.some.injEq] at ht; subst ht; exact absurd rfl hd
        · simp only [Option.some.injEq] at ht; subst ht; exact absurd rfl hd
        · simp only [Option.some.injEq] at ht; subst ht; exact absurd rfl hd
        · rename_i fs hu
          split at ht
          · simp at ht
          · rename_i hst
            obtain ⟨l, hl, rfl⟩ := Option.map_eq_some_iff.1 ht
            cases a <;> cases b <;> simp only [eqv, reduceCtorEq] at hr
            obtain ⟨xs', rfl, hx⟩ := agg_of ha
            obtain ⟨ys', rfl, hy⟩ := agg_of hb
            have hfs : P.fieldsOf t = fs := by simp [Program.fieldsOf, hu]
            rw [← Nat.add_assoc, run_equalIn_struct w (D + n) t xs' ys' (by rw [hfs]; exact hu) (by simpa using hst), hfs]
            exact eqFields_rel (rr := eqdOf P n) (fun h1 h2 h3 h4 => eqv_all n h1 h2 h3 h4) hx hy fs.toList l f hl hr
        · rename_i len e hu
          split at ht
          · rename_i sz ag d' h1 h2 h3
            simp only [Option.some.injEq] at ht
            subst ht
            cases a <;> cases b <;> simp only [eqv, reduceCtorEq] at hr
            obtain ⟨xs', rfl, hx⟩ := agg_of ha
            obtain ⟨ys', rfl, hy⟩ := agg_of hb
            obtain ⟨i, hi, _⟩ : ∃ i, P.info? e = some i ∧ i.size = sz := by
              unfold sizeT at h1
              obtain ⟨i, q1, q2⟩ := Option.map_eq_some_iff.1 h1
              exact ⟨i, q1, q2⟩
            rw [← Nat.add_assoc, run_equalIn_array w (D + n) xs' ys' hu hi, List.range_eq_range']
            exact eqItems_rel h1 h2 (fun h4 h5 h6 => eqv_all n h3 h4 h5 h6) hx hy len 0 f hr
          · simp at ht
        · simp at ht

/-! ### Bounds -/

def OptRel (μ : Mu) : Option AV → Option Value → Prop
  | none, none => True
  | some a, some v => VRel μ a v
  | _, _ => False

theorem sliceBound_rel {a : AV} {i : Int} (h : asI a = some i) {v : Value} (hv : VRel μ a v) {y : Nat} (h0 : 0 ≤ i) (hy : i ≤ y) (code : BoundsCode) :
    (Instr.sliceBound v y code).run P w = .ok i.toNat w := by
  obtain ⟨k, rfl⟩ := asI_rel h hv
  simp [Instr.sliceBound, asIntOf, h0, hy]

def BOk (P : Program) (w : World) : Option Value → Nat → Nat → Nat → Prop
  | some v, y, r, _ => ∀ code, (Instr.sliceBound v y code).run P w = .ok r w
  | none, _, r, d => r = d

theorem bounds_rel {len : Nat} {cap : Option Nat} {lo hi mx : Option AV} {l h : Nat} {m : Option Nat} (hb : bounds len cap lo hi mx = some (l, h, m)) {cap' : Nat} (hc : len ≤ cap') (hcap : ∀ c, cap = some c → c = cap')
    {lo' hi' mx' : Option Value} (hlo : OptRel μ lo lo') (hhi : OptRel μ hi hi') (hmx : OptRel μ mx mx') (isS : Bool) :
    (Instr.sliceBounds isS len cap' lo' hi' mx').run P w = .ok (l, h, m.getD cap') w ∧ l ≤ h ∧ h ≤ m.getD cap' ∧ (m = none → h ≤ len ∧ cap = none) := by
  unfold bounds at hb
  simp only [] at hb
  split at hb
  · simp at hb
  · rename_i m0 hm
    have hM : BOk P w mx' cap' (m0.getD cap') cap' ∧ (m0 = none → cap = none ∧ mx = none) ∧ (∀ k, m0 = some k → k ≤ cap') ∧ (mx = none → m0 = cap) := by
      cases mx with
      | none =>
        cases mx' with
        | some v => exact hmx.elim
        | none =>
          simp only [Option.some.injEq] at hm
          subst hm
          refine ⟨?_, fun h => ⟨h, rfl⟩, fun k hk => by rw [hcap k hk]; exact Nat.le_refl _, fun _ => rfl⟩
          cases cap with
          | none => rfl
          | some c => exact hcap c rfl
      | some v =>
        cases mx' with
        | none => exact hmx.elim
        | some v' =>
          simp only [] at hm
          split at hm
          · rename_i i hi
            split at hm
            · rename_i h0
              have h0 : 0 ≤ i := by simpa using h0
              split at hm
              · rename_i c
                split at hm
                · rename_i hle
                  simp only [Option.some.injEq] at hm
                  subst hm
                  have := hcap c rfl
                  subst this
                  have hle : i ≤ c := by simpa using hle
                  exact ⟨fun code => sliceBound_rel hi hmx h0 hle code, by simp, fun k hk => by simp at hk; omega, by simp⟩
                · simp at hm
              · split at hm
                · rename_i hle
                  simp only [Option.some.injEq] at hm
                  subst hm
                  have hle : i ≤ len := by simpa using hle
                  exact ⟨fun code => sliceBound_rel hi hmx h0 (show i ≤ cap' by omega) code, by simp, fun k hk => by simp at hk; omega, by simp⟩
                · simp at hm
            · simp at hm
          · simp at hm
    obtain ⟨hM1, hM2, hM3, hM4⟩ := hM
    split at hb
    · simp at hb
    · rename_i h0 hh
      have hH : (BOk P w hi' (m0.getD cap') h0 len ∧ (hi' = none → mx' = none)) ∧ h0 ≤ m0.getD cap' ∧ (m0 = none → h0 ≤ len) := by
        cases hi with
        | none =>
          cases hi' with
          | some v => exact hhi.elim
          | none =>
            cases mx with
            | some v => simp at hh
            | none =>
              cases mx' with
              | some v => exact hmx.elim
              | none =>
                simp only [Option.isSome_none, Bool.false_eq_true, if_false, Option.some.injEq] at hh
                subst hh
                refine ⟨⟨rfl, fun _ => rfl⟩, ?_, fun _ => Nat.le_refl _⟩
                rw [hM4 rfl]
                cases cap with
                | none => exact hc
                | some c => simpa [hcap c rfl] using hc
        | some v =>
          cases hi' with
          | none => exact hhi.elim
          | some v' =>
            simp only [] at hh
            split at hh
            · rename_i i hi
              split at hh
              · rename_i hle
                simp only [Bool.and_eq_true, decide_eq_true_eq] at hle
                simp only [Option.some.injEq] at hh
                subst hh
                have hle2 : i ≤ (m0.getD cap' : Nat) := by
                  cases m0 with
                  | none => have := hle.2; simp at this ⊢; omega
                  | some k => simpa using hle.2
                exact ⟨⟨fun code => sliceBound_rel hi hhi hle.1 hle2 code, by simp⟩, by omega, fun e => by subst e; have := hle.2; simp at this; omega⟩
              · simp at hh
            · simp at hh
      obtain ⟨hH1, hH2, hH3⟩ := hH
      have hL : BOk P w lo' h0 l 0 ∧ l ≤ h0 ∧ h0 = h ∧ m0 = m := by
        cases lo with
        | none =>
          cases lo' with
          | some v => exact hlo.elim
          | none =>
            simp only [Option.some.injEq, Prod.mk.injEq] at hb
            obtain ⟨rfl, rfl, rfl⟩ := hb
            exact ⟨rfl, Nat.zero_le _, rfl, rfl⟩
        | some v =>
          cases lo' with
          | none => exact hlo.elim
          | some v' =>
            simp only [] at hb
            split at hb
            · rename_i i hi
              split at hb
              · rename_i hle
                simp only [Bool.and_eq_true, decide_eq_true_eq] at hle
                simp only [Option.some.injEq, Prod.mk.injEq] at hb
                obtain ⟨rfl, rfl, rfl⟩ := hb
                exact ⟨fun code => sliceBound_rel hi hlo hle.1 hle.2 code, by omega, rfl, rfl⟩
              · simp at hb
            · simp at hb
      obtain ⟨hL1, hL2, rfl, rfl⟩ := hL
      refine ⟨?_, hL2, hH2, fun e => ⟨hH3 e, (hM2 e).1⟩⟩
      clear hM2 hM3 hM4 hH2 hH3 hm hh hb hcap hlo hhi hmx
      unfold Instr.sliceBounds
      cases mx' <;> cases hi' <;> cases lo' <;> simp_all [BOk]
end
end Go.Det

/- The deterministic machine's operations that touch memory, each against the real one. -/
set_option linter.unusedVariables false
set_option linter.unusedSimpArgs false
set_option linter.unusedSectionVars false
namespace Go.Det
open Go.RowKit

section
variable {P : Program} {μ : Mu} {w0 : World} {ng : Nat} {h : H} {w : World}

/-- A step: what it answers, and the state behind it. -/
def Rs (P : Program) (μ : Mu) (w0 : World) (ng : Nat) (h : H) (w : World) (s : Sem Value) (v : AV) (h' : H) : Prop :=
  ∃ v' w' μ', s.run P w = .ok v' w' ∧ VRel μ' v v' ∧ WRel μ' w0 ng h' w' ∧ Adv μ h w μ' h' w'

theorem Pl.rs (W : WRel μ w0 ng h w) {s : Sem Value} {v : AV} (hs : Pl P μ w s v) : Rs P μ w0 ng h w s v h := by
  obtain ⟨v', h1, h2⟩ := hs
  exact ⟨v', w, μ, h1, h2, W, Adv.refl _ _ _⟩

theorem newRow_rs (W : WRel μ w0 ng h w) (e : TypeId) {cs : List AV} {vs : Array Value} (hc : VRels μ cs vs.toList) :
    ∃ μ', (newRow e vs).run P w = .ok ⟨w.heap.size, 0, none⟩ (w.alloc (.cells vs e)) ∧ μ' h.n 0 = some ⟨w.heap.size, vs.size⟩ ∧ μ.le μ' ∧ WRel μ' w0 ng (h.new (.cells 0 e cs 0 false)) (w.alloc (.cells vs e)) ∧
      Adv μ h w μ' (h.new (.cells 0 e cs 0 false)) (w.alloc (.cells vs e)) := by
  have := W.new w rfl rfl rfl rfl (.cells 0 e cs 0 false) (.cells vs e) vs.size rfl rfl ⟨vs, 0, 0, rfl, rfl, ⟨vs.toList, [], by simp, hc⟩, Nat.le_refl _, fun i _ h2 => absurd h2 (by omega)⟩
  exact ⟨_, by simp [newRow], Mu.put_at _ _ _ _, this.2.le, this⟩

theorem box_rs (W : WRel μ w0 ng h w) (e : TypeId) {a : AV} {v : Value} (hv : VRel μ a v) :
    Rs P μ w0 ng h w (Instr.box e v) (.ptr ⟨h.n, 0, 0⟩) (h.new (.cells 0 e a.cells 0 false)) := by
  obtain ⟨μ', r, h1, _, W', A'⟩ := newRow_rs (P := P) W e (cells_rel hv)
  exact ⟨.pointer (some ⟨w.heap.size, 0, none⟩), _, μ', by simp [Instr.box, newVar, r], ⟨_, h1, rfl⟩, W', A'⟩

theorem alloc_rs (W : WRel μ w0 ng h w) {e : TypeId} {z : AV} (hz : zeroT P e = some z) :
    Rs P μ w0 ng h w (Instr.alloc e true (.tuple #[])) (.ptr ⟨h.n, 0, 0⟩) (h.new (.cells 0 e z.cells 0 false)) := by
  obtain ⟨v, hv, hr⟩ := zeroT_rel (P := P) (μ := μ) (w := w) hz
  obtain ⟨μ', r, h1, _, W', A'⟩ := newRow_rs (P := P) W e (cells_rel hr)
  exact ⟨.pointer (some ⟨w.heap.size, 0, none⟩), _, μ', by simp [Instr.alloc, hv, newVar, r], ⟨_, h1, rfl⟩, W', A'⟩

/-! ### Loads, stores -/

theorem load_rs (W : WRel μ w0 ng h w) {t : TypeId} {ag : Option Nat} (ht : aggT P t = some ag) {a : AA} {v : AV} (hl : h.ldg a ag = some v)
    {x : Value} (hx : VRel μ (.ptr a) x) : Pl P μ w (Instr.loadAt t x) v := by
  obtain ⟨rb, hm, rfl⟩ := hx
  cases ag with
  | none =>
    obtain ⟨v', h1, h2⟩ := W.ld hl hm
    exact ⟨v', by simp [Instr.loadAt, Instr.sureAddr, loadVar, aggT_none ht, h1], h2⟩
  | some n =>
    obtain ⟨r, h1, rfl⟩ := Option.map_eq_some_iff.1 hl
    obtain ⟨vs, h2, _, h3⟩ := W.ldn P h1 hm
    exact ⟨.agg vs.toArray, by simp [Instr.loadAt, Instr.sureAddr, loadVar, (aggT_some ht).1, (aggT_some ht).2, h2], _, rfl, by simpa using h3⟩

theorem store_rs (W : WRel μ w0 ng h w) {t : TypeId} {n : Nat} (ht : sizeT P t = some n) {a : AA} {v : AV} (hn : v.cells.length = n) {h' : H} (hs : h.st a v.cells = some h') {x y : Value} (hx : VRel μ (.ptr a) x) (hy : VRel μ v y) :
    ∃ w', (Instr.storeAt t x y).run P w = .ok () w' ∧ WRel μ w0 ng h' w' ∧ Adv μ h w μ h' w' := by
  obtain ⟨rb, hm, rfl⟩ := hx
  obtain ⟨w', h1, h2, h3⟩ := W.st P hs (cells_rel hy) hm
  refine ⟨w', ?_, h2, h3⟩
  have hl : v.cells.length = y.cells.size := by simpa using (cells_rel hy).length
  simp [Instr.storeAt, Instr.sureAddr, storeVar, run_size ht, ← hl, hn, h1]

/-! ### Bytes and strings -/

theorem bytesAV_rel (s : List UInt8) : VRels μ (bytesAV s) (s.map fun b => Value.int .u8 b.toNat) := by
  induction s with
  | nil => exact VRels.nil
  | cons b s ih => exact ⟨_, _, rfl, rfl, ih⟩

theorem toBytes_rel {cs : List AV} {s : List UInt8} (h : toBytes cs = some s) {vs : List Value} (hv : VRels μ cs vs) : ∃ ns : List Int, vs = ns.map (Value.int .u8) ∧ s = ns.map fun n => UInt8.ofNat n.toNat := by
  induction cs generalizing s vs with
  | nil => simp only [toBytes, Option.some.injEq] at h; subst h; cases hv; exact ⟨[], rfl, rfl⟩
  | cons a cs ih =>
    obtain ⟨v, y, rfl, h1, h2⟩ := hv
    cases a <;> try (simp only [toBytes, reduceCtorEq] at h; done)
    rename_i k n
    cases k <;> simp only [toBytes, reduceCtorEq] at h
    obtain ⟨r, h3, rfl⟩ := Option.map_eq_some_iff.1 h
    obtain ⟨ns, rfl, rfl⟩ := ih h3 h2
    cases h1
    exact ⟨n :: ns, rfl, rfl⟩

theorem cvBS_rs (W : WRel μ w0 ng h w) {src dst e : TypeId} (hs : P.underlying src = some (.slice e)) (he : P.underlying e = some (.int .u8)) (hd : P.underlying dst = some .string)
    {a : AV} {s : List UInt8} (ha : (match a with | .nils => some [] | .sl a n _ => (h.ldn a n).bind toBytes | _ => none) = some s) {x : Value} (hx : VRel μ a x) : Pl P μ w (convert src dst x) (.str s) := by
  cases a <;> simp only [reduceCtorEq] at ha
  · cases hx
    simp only [Option.some.injEq] at ha
    subst ha
    exact ⟨.string .empty, by rw [run_convert_bytes_string w src dst e _ _ _ hs he hd]; simp [Conv.bytesToString], rfl⟩
  · rename_i a n c
    obtain ⟨cs, h1, h2⟩ := Option.bind_eq_some_iff.1 ha
    have key : ∀ (rb : RB) (o k : Nat), μ a.b a.g = some rb → (o = a.o ∨ n = 0) → Pl P μ w (convert src dst (.slice (some ⟨rb.r, o, none⟩) n k)) (.str s) := by
      intro rb o k hm ho
      obtain ⟨vs, h3, h4, h5⟩ := W.ldn P h1 hm
      obtain ⟨ns, rfl, rfl⟩ := toBytes_rel h2 h5
      have hl : (loadCells ⟨rb.r, o, none⟩ n).run P w = .ok (ns.map (Value.int .u8)).toArray w := by
        rcases ho with rfl | rfl
        · exact h3
        · have : ns = [] := by simpa using h4
          subst this
          rfl
      refine ⟨_, by rw [run_convert_bytes_string w src dst e _ _ _ hs he hd]; exact run_bytesToString w _ n k ns hl, ?_⟩
      show _ = _
      congr 1
      have : ∀ (ns : List Int) (s : ByteArray), ns.foldl (fun r n => r.push (UInt8.ofNat n.toNat)) s = ⟨s.data ++ (ns.map fun n => UInt8.ofNat n.toNat).toArray⟩ := by
        intro ns
        induction ns with
        | nil => intro s; simp
        | cons n ns ih => intro s; rw [List.foldl_cons, ih]; apply ByteArray.ext; simp
      rw [this]
      apply ByteArray.ext
      simp
    cases c with
    | ex c =>
      rcases hx with ⟨rb, hm, rfl, _⟩ | ⟨rfl, rfl, ad, rfl⟩
      · exact key rb a.o c hm (.inl rfl)
      · have hc0 : cs = [] := by
          simp only [H.ldn] at h1
          split at h1
          · exact List.eq_nil_of_length_eq_zero (cut_pre (m := 0) h1)
          · simp at h1
        subst hc0
        simp only [toBytes, Option.some.injEq] at h2
        subst h2
        exact ⟨.string .empty, by rw [run_convert_bytes_string w src dst e _ _ _ hs he hd]; exact run_bytesToString w ad 0 0 [] rfl, rfl⟩
    | op e => obtain ⟨rb, o, c, hm, rfl, hn, _, ho⟩ := hx; exact key rb o c hm (by rcases ho with ho | ho; exact .inl ho.1; exact .inr (by omega))

theorem frozen_new (w : World) (c : Array Value) (e : TypeId) : Chg w ((w.alloc (.cells c e)).freeze ⟨w.heap.size, c.size, none⟩ 1) w.heap.size (.cells c e (c.size, c.size + 1)) := by
  refine ⟨rfl, rfl, rfl, ?_, ?_, ?_⟩
  · simp [World.freeze]
  · simp only [World.freeze, Nat.one_ne_zero, if_false]
    rw [Array.getElem?_modify, if_pos rfl, heap_alloc_new]
    rfl
  · intro k hk hl
    simp only [World.freeze, Nat.one_ne_zero, if_false, Array.getElem?_modify]
    rw [if_neg (Ne.symm hk), heap_alloc_old w _ k hl]

theorem cvSB_rs (W : WRel μ w0 ng h w) {src dst e : TypeId} (hs : P.underlying src = some .string) (hd : P.underlying dst = some (.slice e)) (he : P.underlying e = some (.int .u8))
    {s : List UInt8} (hl : s.length ≤ maxRow) {x : Value} (hx : VRel μ (.str s) x) :
    Rs P μ w0 ng h w (convert src dst x) (.sl ⟨h.n, 0, 0⟩ s.length (.op 1)) (h.new (.cells 0 e (bytesAV s) 0 false)) := by
  cases hx
  have hl' : s.length ≤ maxLen := by unfold maxRow at hl; unfold maxLen; omega
  have hg1 := grownCap_ge w s.length 0 e
  have hg2 := grownCap_le_maxLen w s.length 0 e hl'
  obtain ⟨k, hk⟩ : ∃ k, k = grownCap w s.length 0 e := ⟨_, rfl⟩
  rw [← hk] at hg1 hg2
  let arr : Array Value := (s.map fun b => Value.int .u8 b.toNat).toArray ++ Array.replicate (k - s.length) (.int .u8 0)
  have hsz : arr.size = k := by simp [arr]; omega
  have hch : Chg w ((w.drew.alloc (.cells arr e)).freeze ⟨w.heap.size, arr.size, none⟩ 1) w.heap.size (.cells arr e (arr.size, arr.size + 1)) := (frozen_new w.drew arr e).drew w rfl rfl rfl rfl
  have hW := W.new' (.cells 0 e (bytesAV s) 0 false) _ k hch (by simp [World.freeze]) rfl rfl
    ⟨arr, arr.size, arr.size + 1, rfl, hsz, ⟨s.map fun b => Value.int .u8 b.toNat, List.replicate (k - s.length) (.int .u8 0), by simp [arr], bytesAV_rel s⟩, Nat.le_succ _, fun i h1 _ => .inr (by omega)⟩
  refine ⟨.slice (some ⟨w.heap.size, 0, none⟩) s.length k, _, _, ?_, ?_, hW⟩
  · have hshape : (w.drew.alloc (.cells arr e)).shape? w.heap.size = some (e, arr.size) := by simp only [World.shape?]; rw [show w.heap.size = w.drew.heap.size from rfl, heap_alloc_new]
    simp only [convert, Sem.run_bind, run_underlying hs, run_underlying hd, run_underlying he, Result.andThen_ok, Conv.stringToBytes, run_choose, Question.forced, Bool.false_eq_true, if_false, newRow, run_newObj, Sem.run_pure, markStringish, run_shape, World.alloc_eq, World.drew_eq, World.size_drew]
    have earr : (Array.map (fun b => Value.int IntKind.u8 b.toNat) s.toArray ++ Array.replicate ((Question.appendCap s.length 0 e).cut (w.tape w.drawn (Question.appendCap s.length 0 e)) - s.length) (Value.int IntKind.u8 0)) = arr := by
      simp [arr, hk, grownCap]
    rw [show (⟨s.toArray⟩ : ByteArray).size = s.length from rfl, earr, hshape]
    simp [hk, grownCap]
  · refine ⟨_, 0, k, Mu.put_at _ _ _ _, rfl, hg1, hg2, .inl ⟨rfl, by simp⟩⟩

end
end Go.Det

/- The deterministic machine's append, make, copy and literals, each against the real one. -/
set_option linter.unusedVariables false
set_option linter.unusedSimpArgs false
set_option linter.unusedSectionVars false
namespace Go.Det
open Go.RowKit

section
variable {P : Program} {μ : Mu} {w0 : World} {ng : Nat} {h : H} {w : World}

/-- What a second operand of append, copy yields. -/
theorem src_rel (W : WRel μ w0 ng h w) {sz : Nat} {y : AV} {m : Nat} {new : List AV} (hs : srcCells h sz y = some (m, new)) (hone : new.all AV.one = true) {u : TypeId} {d : TypeDesc} (hu : P.underlying u = some d)
    (hd : srcOk d sz = true) (hk : ∀ s, y = .str s → d = .string) (hk' : (∀ s, y ≠ .str s) → d ≠ .string) {y' : Value} (hy : VRel μ y y') : ∃ news, Src P sz u y' m news w ∧ VRels μ new news := by
  cases y <;> simp only [srcCells, reduceCtorEq] at hs
  · rename_i s
    simp only [Option.some.injEq, Prod.mk.injEq] at hs
    obtain ⟨rfl, rfl⟩ := hs
    have := hk s rfl
    subst this
    have hsz : sz = 1 := by simpa [srcOk] using hd
    subst hsz
    cases hy
    exact ⟨_, Src.ofString w hu ⟨s.toArray⟩, bytesAV_rel s⟩
  · simp only [Option.some.injEq, Prod.mk.injEq] at hs
    obtain ⟨rfl, rfl⟩ := hs
    cases hy
    cases d <;> simp only [srcOk, Bool.false_eq_true] at hd
    · exact absurd rfl (hk' (by simp))
    · exact ⟨[], Src.ofNil w hu 0, VRels.nil⟩
  · rename_i a n c
    obtain ⟨r, h1, h2⟩ := Option.map_eq_some_iff.1 hs
    simp only [Prod.mk.injEq] at h2
    obtain ⟨rfl, rfl⟩ := h2
    cases d <;> simp only [srcOk, Bool.false_eq_true] at hd
    · exact absurd rfl (hk' (by simp))
    · rename_i e'
      have key : ∀ (rb : RB) (o k : Nat), μ a.b a.g = some rb → (o = a.o ∨ n = 0) → ∃ news, Src P sz u (.slice (some ⟨rb.r, o, none⟩) n k) n news w ∧ VRels μ r news := by
        intro rb o k hm ho
        unfold H.ldn at h1
        split at h1
        · rename_i c0 hr
          obtain ⟨c', e, fz, l', h3, h4, h8⟩ := W.row hr hm
          obtain ⟨vs, h5, h6, h7⟩ := h4.cut h1
          refine ⟨vs, Src.ofSlice w hu _ n k vs h5 ?_ (ones_of h6 hone), h6⟩
          intro j v hj
          rcases ho with rfl | rfl
          · rw [addr_add]; exact cell_at h3 (by rw [← h8 _ (Nat.le_add_right _ _)]; exact h7 j v hj)
          · have : vs = [] := by simpa using h5
            subst this
            simp at hj
        · simp at h1
      cases c with
      | ex c =>
        rcases hy with ⟨rb, hm, rfl, _⟩ | ⟨rfl, rfl, ad, rfl⟩
        · exact key rb a.o c hm (.inl rfl)
        · have hr0 : r = [] := by
            simp only [Nat.zero_mul, H.ldn] at h1
            split at h1
            · exact List.eq_nil_of_length_eq_zero (cut_pre (m := 0) h1)
            · simp at h1
          subst hr0
          exact ⟨[], Src.ofSlice w hu _ 0 0 [] (by simp) (by simp) (by simp), VRels.nil⟩
      | op e => obtain ⟨rb, o, c, hm, rfl, hn, _, ho⟩ := hy; exact key rb o c hm (by rcases ho with ho | ho; exact .inl ho.1; exact .inr (by omega))

theorem run_append_none {t tx ty e : TypeId} {i : TypeInfo} (ht : P.underlying t = some (.slice e)) (hi : P.info? e = some i) {base : Option Addr} {sLen sCap : Nat} {x : Value} {news : List Value} (hs : Src P i.size tx x 0 news w) (hle : sLen ≤ sCap) :
    (Builtin.append_ #[t, tx] ty #[.slice base sLen sCap, x]).run P w = .ok (.slice base sLen sCap) w := by
  have hn : news = [] := by have := hs.newsLen; simpa using this
  subst hn
  have hc := hs.cells
  rcases hs.kind with ⟨e', hk⟩ | hk <;> cases base <;> simp [Builtin.append_, run_underlying ht, run_underlying hk, sizeOf, typeInfo, hi, hs.len, hle, hc, storeCells]

theorem run_append_room' {t tx ty e : TypeId} {i : TypeInfo} (ht : P.underlying t = some (.slice e)) (hi : P.info? e = some i) {r sLen sCap n : Nat} {x : Value} {news : List Value} (hs : Src P i.size tx x n news w) (hroom : sLen + n ≤ sCap)
    {w' : World} (hst : (storeCells ⟨r, sLen * i.size, none⟩ news).run P w = .ok () w') :
    (Builtin.append_ #[t, tx] ty #[.slice (some ⟨r, 0, none⟩) sLen sCap, x]).run P w = .ok (.slice (some ⟨r, 0, none⟩) (sLen + n) sCap) w' := by
  rcases hs.kind with ⟨e', hk⟩ | hk <;> simp [Builtin.append_, run_underlying ht, run_underlying hk, sizeOf, typeInfo, hi, hs.len, hroom, hs.cells, addr_add, hst]

theorem zeroCells_size (z : Array Value) (n : Nat) : (Builtin.zeroCells z n).size = n * z.size := by simp [Builtin.zeroCells]

/-- What an append that grows leaves. -/
theorem grown_size {olds news : List Value} {z : Array Value} {sz n m k : Nat} (h1 : olds.length = n * sz) (h2 : news.length = m * sz) (hz : z.size = sz) (hk : n + m ≤ k) : ((olds ++ news).toArray ++ Builtin.zeroCells z (k - (n + m))).size = k * sz := by
  simp only [Array.size_append, List.size_toArray, List.length_append, h1, h2, zeroCells_size, hz, ← Nat.add_mul]
  congr 1
  omega

theorem append_rs (W : WRel μ w0 ng h w) {t u ty e : TypeId} {i : TypeInfo} {z : AV} {d : TypeDesc} (ht : P.underlying t = some (.slice e)) (hu : P.underlying u = some d) (hi : P.info? e = some i) (hz : i.zero.bind (ofVal big) = some z)
    (hz1 : z.cells.length = i.size) (hz2 : 0 < i.size) (hd : srcOk d i.size = true) {x y v : AV} {h' : H}
    (hv : append h e i.size i.bytes x y = some (.val v h')) {x' y' : Value} (hx : VRel μ x x') (hy : VRel μ y y') (hk : ∀ s, y = .str s → d = .string) (hk' : (∀ s, y ≠ .str s) → d ≠ .string) :
    Rs P μ w0 ng h w (Builtin.append_ #[t, u] ty #[x', y']) v h' := by
  obtain ⟨zv, hz3, hz4⟩ := Option.bind_eq_some_iff.1 hz
  have hzs : zv.cells.size = i.size := by have := (cells_rel ((ofVal_rel μ big).1 _ _ hz4)).length; rw [← hz1]; simpa using this.symm
  unfold append at hv
  split at hv
  · simp at hv
  · rename_i m new hsrc
    have hlen : ∀ (a : List AV) (b : List Value), VRels μ a b → a.length = b.length := fun _ _ h => h.length
    split at hv
    · -- nil
      cases hx
      split at hv
      · rename_i hm
        have hm : m = 0 := by simpa using hm
        subst hm
        simp only [Option.some.injEq, Ans.val.injEq] at hv
        obtain ⟨rfl, rfl⟩ := hv
        by_cases hone : new.all AV.one = true
        · obtain ⟨news, hs, _⟩ := src_rel W hsrc hone hu hd hk hk' hy
          exact Pl.rs W ⟨_, run_append_none ht hi hs (Nat.le_refl _), rfl⟩
        · -- nothing is appended: no cell at all
          exfalso
          cases y <;> simp only [srcCells, reduceCtorEq] at hsrc
          · simp only [Option.some.injEq, Prod.mk.injEq, List.length_eq_zero_iff] at hsrc; obtain ⟨rfl, rfl⟩ := hsrc; simp [bytesAV] at hone
          · simp only [Option.some.injEq, Prod.mk.injEq] at hsrc; obtain ⟨_, rfl⟩ := hsrc; simp at hone
          · obtain ⟨r, h1, h2⟩ := Option.map_eq_some_iff.1 hsrc
            simp only [Prod.mk.injEq] at h2
            obtain ⟨rfl, rfl⟩ := h2
            simp only [Nat.zero_mul, H.ldn, cut] at h1
            split at h1
            · simp at h1; subst h1; simp at hone
            · simp at h1
      · rename_i hm
        split at hv
        · rename_i hc
          simp only [Bool.and_eq_true, decide_eq_true_eq] at hc
          obtain ⟨⟨hb, h63⟩, hone⟩ := hc
          simp only [Option.some.injEq, Ans.val.injEq] at hv
          obtain ⟨rfl, rfl⟩ := hv
          obtain ⟨news, hs, hrel⟩ := src_rel W hsrc hone hu hd hk hk' hy
          have hm : 0 < m := Nat.pos_of_ne_zero (by simpa using hm)
          have hml : m ≤ maxLen := by unfold maxLen; omega
          have hr := run_append_grow_src (P := P) w t u ty e i zv ht hi hz3 none 0 0 [] (by simp [Builtin.firstCells]) y' m news hs (by omega) (by omega)
            (growslice_fits_wide (by omega) (by simpa using fits_ok hb))
          have hg1 := grownCap_ge w (0 + m) 0 e
          have hg2 := grownCap_le_maxLen w (0 + m) 0 e (by omega)
          rw [Nat.zero_add] at hr hg1 hg2
          obtain ⟨k, hk⟩ : ∃ k, k = grownCap w m 0 e := ⟨_, rfl⟩
          rw [← hk] at hr hg1 hg2
          have hsz := grown_size (olds := []) (news := news) (z := zv.cells) (sz := i.size) (n := 0) (m := m) (k := k) (by simp) hs.newsLen hzs (by omega)
          rw [Nat.zero_add] at hsz
          have hW := W.new w.drew rfl rfl rfl rfl (.cells 0 e new 0 false) (.cells (([] ++ news).toArray ++ Builtin.zeroCells zv.cells (k - m)) e) (k * i.size) rfl rfl
            ⟨_, 0, 0, rfl, hsz, ⟨news, (Builtin.zeroCells zv.cells (k - m)).toList, by simp, hrel⟩, Nat.le_refl _, fun i _ h2 => absurd h2 (by omega)⟩
          exact ⟨_, _, _, hr, ⟨_, 0, k, Mu.put_at _ _ _ _, rfl, hg1, hg2, .inl ⟨rfl, by simp⟩⟩, hW⟩
        · simp at hv
    · -- a slice
      rename_i a n c
      split at hv
      · rename_i hm
        have hm : m = 0 := by simpa using hm
        subst hm
        simp only [Option.some.injEq, Ans.val.injEq] at hv
        obtain ⟨rfl, rfl⟩ := hv
        have hone : new.all AV.one = true := by
          cases y <;> simp only [srcCells, reduceCtorEq] at hsrc
          · simp only [Option.some.injEq, Prod.mk.injEq, List.length_eq_zero_iff] at hsrc; obtain ⟨rfl, rfl⟩ := hsrc; simp [bytesAV]
          · simp only [Option.some.injEq, Prod.mk.injEq] at hsrc; obtain ⟨_, rfl⟩ := hsrc; simp
          · obtain ⟨r, h1, h2⟩ := Option.map_eq_some_iff.1 hsrc
            simp only [Prod.mk.injEq] at h2
            obtain ⟨rfl, rfl⟩ := h2
            simp only [Nat.zero_mul, H.ldn, cut] at h1
            split at h1
            · simp at h1; subst h1; simp
            · simp at h1
        obtain ⟨news, hs, _⟩ := src_rel W hsrc hone hu hd hk hk' hy
        have hx0 := hx
        cases c with
        | ex c =>
          rcases hx with ⟨rb, _, rfl, hle⟩ | ⟨rfl, rfl, ad, rfl⟩
          · exact Pl.rs W ⟨_, run_append_none ht hi hs hle, hx0⟩
          · exact Pl.rs W ⟨_, run_append_none ht hi hs (Nat.le_refl _), hx0⟩
        | op e' => obtain ⟨rb, o, c, _, rfl, hle, _⟩ := hx; exact Pl.rs W ⟨_, run_append_none ht hi hs hle, hx0⟩
      · rename_i hm
        have hm : 0 < m := Nat.pos_of_ne_zero (by simpa using hm)
        split at hv
        · simp at hv
        · rename_i hc
          simp only [Bool.not_eq_true, Bool.not_eq_false', Bool.and_eq_true, decide_eq_true_eq] at hc
          obtain ⟨⟨hb, h63⟩, hone⟩ := hc
          obtain ⟨news, hs, hrel⟩ := src_rel W hsrc hone hu hd hk hk' hy
          have hml : n + m ≤ maxLen := by unfold maxLen; omega
          have hfit : ∀ k, k < n + m → Builtin.nextslicecap (n + m) k * i.bytes ≤ 281474976710656 := fun k hk => growslice_fits_wide hk (fits_ok hb)
          split at hv
          · -- a known capacity that is too small: a new row
            rename_i k
            split at hv
            · rename_i hkl
              split at hv
              · rename_i old hold
                simp only [Option.some.injEq, Ans.val.injEq] at hv
                obtain ⟨rfl, rfl⟩ := hv
                have hgrow : ∃ (base : Option Addr) (vs : List Value), x' = .slice base n k ∧ (Builtin.firstCells i.size n (.slice base n k)).run P w.drew = .ok vs.toArray w.drew ∧ vs.length = n * i.size ∧ VRels μ old vs := by
                  rcases hx with ⟨rb, hmm, rfl, hle⟩ | ⟨rfl, rfl, ad, rfl⟩
                  · obtain ⟨vs, h1, h2, h3⟩ := (W.drew (w' := w.drew) rfl rfl rfl rfl).ldn P hold hmm
                    exact ⟨_, vs, rfl, by simpa [Builtin.firstCells] using h1, h2, h3⟩
                  · have ho : old = [] := by
                      simp only [Nat.zero_mul, H.ldn] at hold
                      split at hold
                      · exact List.eq_nil_of_length_eq_zero (cut_pre (m := 0) hold)
                      · simp at hold
                    subst ho
                    exact ⟨some ad, [], rfl, by simp [Builtin.firstCells, loadCells, loadCellsFrom], by simp, VRels.nil⟩
                obtain ⟨base, vs, rfl, h1, h2, h3⟩ := hgrow
                have hr := run_append_grow_src (P := P) w t u ty e i zv ht hi hz3 base n k vs h1 y' m news hs hkl (by omega) (hfit k hkl)
                have hg1 := grownCap_ge w (n + m) k e
                have hg2 := grownCap_le_maxLen w (n + m) k e hml
                obtain ⟨q, hq⟩ : ∃ q, q = grownCap w (n + m) k e := ⟨_, rfl⟩
                rw [← hq] at hr hg1 hg2
                have hsz := grown_size (z := zv.cells) (k := q) h2 hs.newsLen hzs hg1
                have hW := W.new w.drew rfl rfl rfl rfl (.cells 0 e (old ++ new) 0 false) (.cells ((vs ++ news).toArray ++ Builtin.zeroCells zv.cells (q - (n + m))) e) (q * i.size) rfl rfl
                  ⟨_, 0, 0, rfl, hsz, ⟨vs ++ news, (Builtin.zeroCells zv.cells (q - (n + m))).toList, by simp, h3.append hrel⟩, Nat.le_refl _, fun i _ h2 => absurd h2 (by omega)⟩
                exact ⟨_, _, _, hr, ⟨_, 0, q, Mu.put_at _ _ _ _, rfl, hg1, hg2, .inl ⟨rfl, by simp⟩⟩, hW⟩
              · simp at hv
            · simp at hv
          · -- an open one
            rename_i sz'
            split at hv
            · rename_i g e' c' fz ro hg
              split at hv
              · rename_i hcc
                simp only [Bool.and_eq_true, Bool.not_eq_true', decide_eq_true_eq, beq_iff_eq] at hcc
                obtain ⟨⟨⟨⟨⟨⟨rfl, hao⟩, hcl⟩, rfl⟩, rfl⟩, hro⟩, hfz⟩ := hcc
                simp only [Option.some.injEq, Ans.val.injEq] at hv
                obtain ⟨rfl, rfl⟩ := hv
                obtain ⟨rb, o, k, hmm, rfl, hle, hkm, hdis⟩ := hx
                have ho : o = 0 := by rcases hdis with ⟨e1, _⟩ | ⟨_, e1⟩ <;> omega
                subst ho
                obtain ⟨⟨ob, h1, h2⟩, h3⟩ := (W.blk _ _ rb hg hmm).imp (fun x => x.own hro) id
                obtain ⟨row, lo, hi', rfl, hsz, hpre, hlh, hfr⟩ := h2
                have hdom : ∀ g' rb1, μ a.b g' = some rb1 → g' ≤ a.g := by
                  intro g' rb1 e1
                  obtain ⟨_, _, B, h5, h6⟩ := W.dom _ _ _ e1
                  rw [hg] at h5; cases h5; exact h6
                have hno : ∀ rb1, μ a.b (a.g + 1) = some rb1 → False := fun rb1 e1 => by have := hdom _ _ e1; omega
                have hle2 : μ.le (μ.put a.b (a.g + 1) rb) := by
                  intro b g' rb1 e1
                  unfold Mu.put
                  split
                  · rename_i hk; obtain ⟨rfl, rfl⟩ := hk; exact (hno _ e1).elim
                  · exact e1
                have hlt := W.dom _ _ _ hmm
                by_cases hroom : n + m ≤ k
                · have hrbn : k * i.size = rb.n := by rcases hdis with ⟨_, e1⟩ | ⟨e1, _⟩ <;> omega
                  have hfits : n * i.size + news.length ≤ row.size := by rw [hs.newsLen, ← Nat.add_mul, hsz, ← hrbn]; exact Nat.mul_le_mul_right _ hroom
                  obtain ⟨w', r1, r2, r3⟩ := run_storeCells_fz P rb.r (n * i.size) e' lo hi' news 0 row w h1 (by omega) (fun j _ hj hh => by rcases hfr _ hh.1 hh.2 with h | h <;> omega) hs.one
                  have hr := run_append_room' (ty := ty) ht hi hs hroom r1
                  have hB : ORel (μ.put a.b (a.g + 1) rb) rb.n (.cells (a.g + 1) e' (c' ++ new) fz ro) (.cells (row.toList.take (n * i.size + 0) ++ news ++ row.toList.drop (n * i.size + 0 + news.length)).toArray e' (lo, hi')) := by
                    refine ⟨_, lo, hi', rfl, ?_, ?_, hlh, hfr⟩
                    · simp only [List.size_toArray, List.length_append, List.length_take, List.length_drop, Array.length_toList]; omega
                    · have := (hpre.mono hle2).append (VRels.mono hle2 _ _ hrel)
                      rw [hcl] at this
                      simpa using this
                  have hW := W.upd a.b (.cells (a.g + 1) e' (c' ++ new) fz ro) rb _ (h.get_set a.b _) (fun q hq => h.get_set_ne a.b q _ hq) (Nat.le_refl _) hlt.2.1 r2 (by rw [r3]; exact hlt.1) hro
                    (.inr ⟨_, rb, hg, hmm, hro, rfl⟩) (fun g' rb1 e1 => Nat.le_succ_of_le (hdom g' rb1 e1)) (fun rb1 e1 => (hno _ e1).elim) hB
                  exact ⟨_, w', _, hr, ⟨rb, 0, k, Mu.put_at _ _ _ _, rfl, hroom, hkm, .inl ⟨rfl, by show 0 + k * i.size = rb.n; omega⟩⟩, hW⟩
                · have hkl : k < n + m := by omega
                  have hcut : cut c' 0 (n * i.size) = some c' := by
                    simp only [cut, List.drop_zero, ← hcl, List.take_length, BEq.rfl, if_true]
                  obtain ⟨vs, h5, h6, h7⟩ := hpre.cut hcut
                  have hl := run_loadCells_list' (w := w.drew) P ⟨rb.r, 0, none⟩ vs 0 #[] (fun j v hj => by rw [addr_add]; exact cell_at (w := w.drew) h1 (by simpa using h7 j v hj))
                  rw [h5] at hl
                  have hr := run_append_grow_src (P := P) w t u ty e' i zv ht hi hz3 (some ⟨rb.r, 0, none⟩) n k vs (by simpa [Builtin.firstCells, loadCells] using hl) y' m news hs hkl (by omega) (hfit k hkl)
                  have hg1 := grownCap_ge w (n + m) k e'
                  have hg2 := grownCap_le_maxLen w (n + m) k e' hml
                  obtain ⟨q, hq⟩ : ∃ q, q = grownCap w (n + m) k e' := ⟨_, rfl⟩
                  rw [← hq] at hr hg1 hg2
                  have hsz2 := grown_size (z := zv.cells) (k := q) h5 hs.newsLen hzs hg1
                  have hle3 : μ.le (μ.put a.b (a.g + 1) ⟨w.heap.size, q * i.size⟩) := by
                    intro b g' rb1 e1
                    unfold Mu.put
                    split
                    · rename_i hk; obtain ⟨rfl, rfl⟩ := hk; exact (hno _ e1).elim
                    · exact e1
                  have hB : ORel (μ.put a.b (a.g + 1) ⟨w.heap.size, q * i.size⟩) (q * i.size) (.cells (a.g + 1) e' (c' ++ new) fz ro) (.cells ((vs ++ news).toArray ++ Builtin.zeroCells zv.cells (q - (n + m))) e') :=
                    ⟨_, 0, 0, rfl, hsz2, ⟨vs ++ news, (Builtin.zeroCells zv.cells (q - (n + m))).toList, by simp, (VRels.mono hle3 _ _ h6).append (VRels.mono hle3 _ _ hrel)⟩, Nat.le_refl _, fun i _ h2 => absurd h2 (by omega)⟩
                  have hch : Chg w (w.drew.alloc (.cells ((vs ++ news).toArray ++ Builtin.zeroCells zv.cells (q - (n + m))) e')) w.heap.size (.cells ((vs ++ news).toArray ++ Builtin.zeroCells zv.cells (q - (n + m))) e') :=
                    (Chg.alloc w.drew _).drew w rfl rfl rfl rfl
                  have hW := W.upd a.b (.cells (a.g + 1) e' (c' ++ new) fz ro) ⟨w.heap.size, q * i.size⟩ _ (h.get_set a.b _) (fun q hq => h.get_set_ne a.b q _ hq) (Nat.le_refl _) hlt.2.1 hch (by simp) hro
                    (.inl ⟨rfl, .inr ⟨_, rb, hg, hmm, hro⟩⟩) (fun g' rb1 e1 => Nat.le_succ_of_le (hdom g' rb1 e1)) (fun rb1 e1 => (hno _ e1).elim) hB
                  exact ⟨_, _, _, hr, ⟨_, 0, q, Mu.put_at _ _ _ _, rfl, hg1, hg2, .inl ⟨rfl, by simp⟩⟩, hW⟩
              · simp at hv
            · simp at hv
    · simp at hv

end
end Go.Det

/- The deterministic machine's literals, makes, copies, slices, places, maps, each against the real one. -/
set_option linter.unusedVariables false
set_option linter.unusedSimpArgs false
set_option linter.unusedSectionVars false
namespace Go.Det
open Go.RowKit

section
variable {P : Program} {μ : Mu} {w0 : World} {ng : Nat} {h : H} {w : World}

/-! ### Literals -/

theorem foldl_put : ∀ (vs : List Value) (o k : Nat) (cs : Array Value), o + k + vs.length ≤ cs.size →
    ((vs.zipIdx k).foldl (fun cs (p : Value × Nat) => cs.setIfInBounds (o + p.2) p.1) cs).toList = cs.toList.take (o + k) ++ vs ++ cs.toList.drop (o + k + vs.length)
  | [], o, k, cs, _ => by simp
  | v :: vs, o, k, cs, hl => by
    simp only [List.zipIdx_cons, List.foldl_cons]
    rw [foldl_put vs o (k + 1) _ (by simp at hl ⊢; omega)]
    have e := list_seg_step cs.toList (o + k) v vs (by simp at hl ⊢; omega)
    simpa [Array.toList_setIfInBounds, Nat.add_assoc] using e

theorem fill_rel {places : Nat → Option (Nat × Nat)} {ρA : IX → AV} {ρ : Operand → Value} :
    ∀ (ps : List (Nat × Operand)) (aps : List (Nat × Nat × IX)), (∀ p ∈ ps, ∀ X, ofOpd P p.2 = some X → VRel μ (ρA X) (ρ p.2)) → partsOf P places ps = some aps → ∀ (c c' : List AV) (cs : Array Value), VRels μ c cs.toList → fillL c (aps.map fun p => (p.1, p.2.1, ρA p.2.2)) = some c' →
      ∃ cs', Instr.fill places cs (ps.map fun p => (p.1, ρ p.2)) = some cs' ∧ VRels μ c' cs'.toList
  | [], aps, _, h, c, c', cs, hc, hf => by
    simp only [partsOf, Option.some.injEq] at h
    subst h
    simp only [List.map_nil, fillL, Option.some.injEq] at hf
    subst hf
    exact ⟨cs, rfl, hc⟩
  | (i, x) :: ps, aps, hρ, h, c, c', cs, hc, hf => by
    simp only [partsOf] at h
    split at h
    · rename_i off sz X r h1 h2 h3
      simp only [Option.some.injEq] at h
      subst h
      simp only [List.map_cons, fillL] at hf
      split at hf
      · rename_i hcond
        simp only [Bool.and_eq_true, beq_iff_eq, decide_eq_true_eq] at hcond
        have hv := cells_rel (hρ (i, x) (by simp) _ h2)
        have hvl : (ρA X).cells.length = (ρ x).cells.size := by simpa using hv.length
        have hcl : c.length = cs.size := by simpa using hc.length
        have hput := hc.putAt (o := off) hv (by omega)
        have hfold := foldl_put (ρ x).cells.toList off 0 cs (by simp; omega)
        simp only [Nat.add_zero] at hfold
        obtain ⟨cs', h4, h5⟩ := fill_rel ps r (fun p hp => hρ p (by simp [hp])) h3 _ c' ((((ρ x).cells.toList.zipIdx 0).foldl (fun cs (p : Value × Nat) => cs.setIfInBounds (off + p.2) p.1) cs)) (by rw [hfold]; exact hput) hf
        refine ⟨cs', ?_, h5⟩
        simp only [List.map_cons, Instr.fill, h1]
        rw [if_neg (by simp; omega)]
        rw [← h4]
        congr 1
        rw [← Array.foldl_toList]
        simp
      · simp at hf
    · simp at h

theorem range_flat {α : Type} [Inhabited α] (z : List α) : ∀ n, (List.range (n * z.length)).map (fun i => z[i % z.length]!) = (List.replicate n z).flatten
  | 0 => by simp
  | n + 1 => by
    have hr : List.range ((n + 1) * z.length) = List.range (n * z.length) ++ (List.range z.length).map (n * z.length + ·) := by
      rw [Nat.succ_mul, List.range_add]
    rw [hr, List.map_append, range_flat z n, List.replicate_succ', List.flatten_append]
    congr 1
    simp only [List.map_map, List.flatten_cons, List.flatten_nil, List.append_nil]
    apply List.ext_getElem
    · simp
    · intro i h1 h2
      simp only [List.length_map, List.length_range] at h1
      simp only [List.getElem_map, List.getElem_range, Function.comp]
      rw [Nat.mul_add_mod_self_right, Nat.mod_eq_of_lt h1, getElem!_pos z i h1]

theorem flat_rel {a : List AV} {v : List Value} (h : VRels μ a v) : ∀ n, VRels μ (List.replicate n a).flatten (List.replicate n v).flatten
  | 0 => by simpa using VRels.nil
  | n + 1 => by simpa [List.replicate_succ] using h.append (flat_rel h n)

theorem zero_row {z : Array Value} {n s : Nat} (hs : z.size = s) : ((Array.range (n * s)).map fun i => z[i % z.size]!).toList = (List.replicate n z.toList).flatten := by
  subst hs
  have := range_flat z.toList n
  simp only [Array.length_toList] at this
  rw [← this]
  simp
  intro a _
  rw [getElem!_def]
  cases z[a % z.size]? <;> rfl

theorem run_places (fs : List Field) (hf : fs.all (fun f => (sizeT P f.type).isSome) = true) :
    (fs.mapM fun f => (do pure (f.offset, ← sizeOf f.type) : Sem (Nat × Nat))).run P w = .ok (fs.map fun f => (f.offset, (sizeT P f.type).getD 0)) w := by
  induction fs with
  | nil => rfl
  | cons f fs ih =>
    simp only [List.all_cons, Bool.and_eq_true] at hf
    obtain ⟨s, hs⟩ := Option.isSome_iff_exists.1 hf.1
    simp only [List.mapM_cons, Sem.run_bind, run_size hs, Result.andThen_ok, Sem.run_pure, ih hf.2, List.map_cons, hs, Option.getD_some]

theorem build_rs {t : TypeId} {fs : Array Field} (ht : P.underlying t = some (.struct fs)) {z : AV} (hz : zeroT P t = some z) (hall : fs.toList.all (fun f => (sizeT P f.type).isSome) = true) {ps : Array (Nat × Operand)} {aps : List (Nat × Nat × IX)}
    (hp : partsOf P (fun i => match fs[i]? with | some f => (sizeT P f.type).map fun s => (f.offset, s) | none => none) ps.toList = some aps) {ρA : IX → AV} {ρ : Operand → Value} (hρ : ∀ p ∈ ps.toList, ∀ X, ofOpd P p.2 = some X → VRel μ (ρA X) (ρ p.2))
    {cs : List AV} (hf : fillL z.cells (aps.map fun p => (p.1, p.2.1, ρA p.2.2)) = some cs) : Pl P μ w (Instr.build t (ps.map fun (i, x) => (i, ρ x))) (.agg cs) := by
  obtain ⟨zv, hz1, hz2⟩ := zeroT_rel (P := P) (μ := μ) (w := w) hz
  obtain ⟨cs', h1, h2⟩ := fill_rel _ _ hρ hp _ _ zv.cells (cells_rel hz2) hf
  refine ⟨.agg cs', ?_, _, rfl, h2⟩
  have hm : (fs.mapM fun f => (do pure (f.offset, ← sizeOf f.type) : Sem (Nat × Nat))).run P w = .ok (fs.map fun f => (f.offset, (sizeT P f.type).getD 0)) w := by
    rw [Array.mapM_eq_mapM_toList]
    simp only [Sem.run_map, run_places fs.toList hall, Result.andThen_ok]
    congr 1
    apply Array.ext'
    simp
  have hpl : (fun (i : Nat) => (fs.map fun (f : Field) => (f.offset, (sizeT P f.type).getD 0))[i]?) = (fun (i : Nat) => match fs[i]? with | some f => (sizeT P f.type).map fun s => (f.offset, s) | none => none) := by
    funext i
    rw [Array.getElem?_map]
    cases e : fs[i]? with
    | none => rfl
    | some f =>
      have : (sizeT P f.type).isSome = true := List.all_eq_true.1 hall f (by rw [← Array.mem_def]; exact Array.mem_of_getElem? e)
      obtain ⟨s, hs⟩ := Option.isSome_iff_exists.1 this
      simp [hs]
  simp only [Instr.build, Sem.run_bind, hz1, Result.andThen_ok, run_underlying ht, hm, hpl]
  have : (ps.map fun (i, x) => (i, ρ x)).toList = ps.toList.map fun p => (p.1, ρ p.2) := by simp
  rw [this, h1]
  rfl

theorem buildA_rs {t e : TypeId} {len : Nat} (ht : P.underlying t = some (.array len e)) {z : AV} (hz : zeroT P t = some z) {s : Nat} (hs : sizeT P e = some s) {ps : Array (Nat × Operand)} {aps : List (Nat × Nat × IX)}
    (hp : partsOf P (fun i => some (i * s, s)) ps.toList = some aps) {ρA : IX → AV} {ρ : Operand → Value} (hρ : ∀ p ∈ ps.toList, ∀ X, ofOpd P p.2 = some X → VRel μ (ρA X) (ρ p.2))
    {cs : List AV} (hf : fillL z.cells (aps.map fun p => (p.1, p.2.1, ρA p.2.2)) = some cs) : Pl P μ w (Instr.build t (ps.map fun (i, x) => (i, ρ x))) (.agg cs) := by
  obtain ⟨zv, hz1, hz2⟩ := zeroT_rel (P := P) (μ := μ) (w := w) hz
  obtain ⟨cs', h1, h2⟩ := fill_rel _ _ hρ hp _ _ zv.cells (cells_rel hz2) hf
  refine ⟨.agg cs', ?_, _, rfl, h2⟩
  simp only [Instr.build, Sem.run_bind, hz1, Result.andThen_ok, run_underlying ht, run_size hs]
  have : (ps.map fun (i, x) => (i, ρ x)).toList = ps.toList.map fun p => (p.1, ρ p.2) := by simp
  rw [this, h1]
  rfl

theorem bsl_rs (W : WRel μ w0 ng h w) {t e : TypeId} (ht : P.underlying t = some (.slice e)) {s n : Nat} (hs : sizeT P e = some s) {z : AV} (hz : zeroT P e = some z) (hn : n * s ≤ 16777216) (hzl : z.cells.length = s) {ps : Array (Nat × Operand)} {aps : List (Nat × Nat × IX)}
    (hp : partsOf P (fun i => some (i * s, s)) ps.toList = some aps) {ρA : IX → AV} {ρ : Operand → Value} (hρ : ∀ p ∈ ps.toList, ∀ X, ofOpd P p.2 = some X → VRel μ (ρA X) (ρ p.2))
    {cs : List AV} (hf : fillL (List.replicate n z.cells).flatten (aps.map fun p => (p.1, p.2.1, ρA p.2.2)) = some cs) :
    Rs P μ w0 ng h w (Instr.buildSlice t n (ps.map fun (i, x) => (i, ρ x))) (.sl ⟨h.n, 0, 0⟩ n (.ex n)) (h.new (.cells 0 e cs 0 false)) := by
  obtain ⟨zv, hz1, hz2⟩ := zeroT_rel (P := P) (μ := μ) (w := w) hz
  have hzs : zv.cells.size = s := by rw [← hzl]; simpa using (cells_rel hz2).length.symm
  obtain ⟨zr, hzr1, hzr2⟩ : ∃ zr : Array Value, ((n * s = 0 ∧ zr = #[]) ∨ (n * s ≠ 0 ∧ zr = zv.cells)) ∧ ((Array.range (n * s)).map fun i => zr[i % zr.size]!).toList = (List.replicate n zv.cells.toList).flatten := by
    by_cases h0 : n * s = 0
    · refine ⟨#[], .inl ⟨h0, rfl⟩, ?_⟩
      rcases Nat.mul_eq_zero.1 h0 with rfl | rfl
      · simp
      · have : zv.cells.toList = [] := by rw [← Array.length_toList] at hzs; exact List.eq_nil_of_length_eq_zero hzs
        simp [this]
    · exact ⟨zv.cells, .inr ⟨h0, rfl⟩, zero_row hzs⟩
  obtain ⟨cs', h1, h2⟩ := fill_rel _ _ hρ hp _ _ ((Array.range (n * s)).map fun i => zr[i % zr.size]!) (by rw [hzr2]; exact flat_rel (cells_rel hz2) n) hf
  obtain ⟨μ', r, hm, _, hW⟩ := newRow_rs (P := P) W e h2
  refine ⟨.slice (some ⟨w.heap.size, 0, none⟩) n n, _, μ', ?_, .inl ⟨_, hm, rfl, Nat.le_refl _⟩, hW⟩
  have : (ps.map fun (i, x) => (i, ρ x)).toList = ps.toList.map fun p => (p.1, ρ p.2) := by simp
  simp only [Instr.buildSlice, Sem.run_bind, run_underlying ht, Result.andThen_ok, run_size hs]
  rw [if_neg (by omega)]
  rcases hzr1 with ⟨h0, rfl⟩ | ⟨h0, rfl⟩
  · rw [if_pos h0]
    simp only [Sem.run_bind, Sem.run_pure, Result.andThen_ok, this, h1, r]
  · rw [if_neg h0]
    simp only [Sem.run_bind, Sem.run_pure, hz1, Result.andThen_ok, this, h1, r]

theorem mkS_rs (W : WRel μ w0 ng h w) {t e : TypeId} (ht : P.underlying t = some (.slice e)) {i : TypeInfo} (hi : P.info? e = some i) {z : AV} (hz : zeroT P e = some z) (hzl : z.cells.length = i.size) (hz0 : 0 < i.size)
    {l c : AV} {ln cn : Int} (hl : asI l = some ln) (hc : asI c = some cn) (h0 : 0 ≤ ln) (h1 : ln ≤ cn) (h2 : i.bytes * cn ≤ maxRow) (h3 : cn ≤ 9223372036854775807) {l' c' : Value} (hl' : VRel μ l l') (hc' : VRel μ c c') :
    Rs P μ w0 ng h w (Instr.makeSlice t l' c') (.sl ⟨h.n, 0, 0⟩ ln.toNat (if ln == cn then .ex ln.toNat else .op z.cells.length)) (h.new (.cells 0 e ((List.replicate ln.toNat z.cells).flatten) 0 false)) := by
  obtain ⟨kl, rfl⟩ := asI_rel hl hl'
  obtain ⟨kc, rfl⟩ := asI_rel hc hc'
  obtain ⟨zv, hz1, hz2⟩ := zeroT_rel (P := P) (μ := μ) (w := w) hz
  have hzs : zv.cells.size = i.size := by rw [← hzl]; simpa using (cells_rel hz2).length.symm
  have hwl : IntKind.i64.wrap ln = ln := IntWalk.i64_in _ (by omega)
  have hwc : IntKind.i64.wrap cn = cn := IntWalk.i64_in _ (by omega)
  have hsize : (sizeOf e).run P w = .ok i.size w := by simp [sizeOf, run_info hi]
  obtain ⟨zr, hzr1, hzr2⟩ : ∃ zr : Array Value, ((cn.toNat * i.size = 0 ∧ zr = #[]) ∨ (cn.toNat * i.size ≠ 0 ∧ zr = zv.cells)) ∧ ((Array.range (cn.toNat * i.size)).map fun i => zr[i % zr.size]!).toList = (List.replicate cn.toNat zv.cells.toList).flatten := by
    by_cases h0 : cn.toNat * i.size = 0
    · refine ⟨#[], .inl ⟨h0, rfl⟩, ?_⟩
      have : cn.toNat = 0 := by rcases Nat.mul_eq_zero.1 h0 with h | h <;> omega
      simp [this]
    · exact ⟨zv.cells, .inr ⟨h0, rfl⟩, zero_row hzs⟩
  have hrep : (List.replicate cn.toNat zv.cells.toList).flatten = (List.replicate ln.toNat zv.cells.toList).flatten ++ (List.replicate (cn.toNat - ln.toNat) zv.cells.toList).flatten := by
    rw [← List.flatten_append, List.replicate_append_replicate]; congr 2; omega
  have hszr : ((Array.range (cn.toNat * i.size)).map fun i => zr[i % zr.size]!).size = cn.toNat * i.size := by simp
  have hW := W.new w rfl rfl rfl rfl (.cells 0 e ((List.replicate ln.toNat z.cells).flatten) 0 false) (.cells ((Array.range (cn.toNat * i.size)).map fun i => zr[i % zr.size]!) e) (cn.toNat * i.size) rfl rfl
    ⟨_, 0, 0, rfl, hszr, ⟨(List.replicate ln.toNat zv.cells.toList).flatten, (List.replicate (cn.toNat - ln.toNat) zv.cells.toList).flatten, by rw [hzr2, hrep], flat_rel (cells_rel hz2) _⟩, Nat.le_refl _, fun i _ h2 => absurd h2 (by omega)⟩
  have hmr : (maxRow : Int) = 200000000000000 := rfl
  refine ⟨.slice (some ⟨w.heap.size, 0, none⟩) ln.toNat cn.toNat, _, _, ?_, ?_, hW⟩
  · simp only [Instr.makeSlice, Sem.run_bind, run_underlying ht, Result.andThen_ok, asInt, asIntOf, Sem.run_pure, run_info hi, hwl, hwc]
    rw [if_neg (by simp; omega)]
    simp only [Sem.run_bind, run_askRoom, Result.andThen_ok, hsize]
    rcases hzr1 with ⟨h0, rfl⟩ | ⟨h0, rfl⟩
    · rw [if_pos h0]
      simp only [Sem.run_bind, Sem.run_pure, Result.andThen_ok, newRow, run_newObj, World.alloc_eq]
    · rw [if_neg h0]
      simp only [Sem.run_bind, Sem.run_pure, hz1, Result.andThen_ok, newRow, run_newObj, World.alloc_eq]
  · by_cases he : ln = cn
    · subst he
      simp only [BEq.rfl, if_true]
      exact .inl ⟨_, Mu.put_at _ _ _ _, rfl, Nat.le_refl _⟩
    · rw [if_neg (by simpa using he)]
      exact ⟨_, 0, cn.toNat, Mu.put_at _ _ _ _, rfl, by omega, by unfold maxLen; omega, .inl ⟨rfl, by simp [hzl]⟩⟩

end
end Go.Det

/- The deterministic machine's slices, places, copies, maps and walks over strings, each against the real one. -/
set_option linter.unusedVariables false
set_option linter.unusedSimpArgs false
set_option linter.unusedSectionVars false
namespace Go.Det
open Go.RowKit

section
variable {P : Program} {μ : Mu} {w0 : World} {ng : Nat} {h : H} {w : World}

/-! ### Slices -/

theorem slS_rs {t : TypeId} (ht : P.underlying t = some .string) {s : List UInt8} {lo hi : Option AV} {l hh : Nat} {m : Option Nat} (hb : bounds s.length (some s.length) lo hi none = some (l, hh, m)) {lo' hi' : Option Value} (hlo : OptRel μ lo lo') (hhi : OptRel μ hi hi')
    {x : Value} (hx : VRel μ (.str s) x) : Pl P μ w (Instr.sliceAt t x lo' hi' none) (.str ((s.take hh).drop l)) := by
  cases hx
  have := (bounds_rel (P := P) (w := w) hb (Nat.le_refl _) (by simp) hlo hhi (mx' := none) trivial false).1
  refine ⟨.string ((⟨s.toArray⟩ : ByteArray).extract l hh), ?_, by rw [ba_extract]; rfl⟩
  simp [Instr.sliceAt, Instr.slice, run_underlying ht, ba_size, this]

theorem add_mul (r o l s : Nat) : (⟨r, o, none⟩ : Addr).add (l * s) = ⟨r, o + l * s, none⟩ := addr_add _ _ _

theorem slN_rs {t e : TypeId} (ht : P.underlying t = some (.slice e)) {s : Nat} (hs : sizeT P e = some s) {lo hi mx : Option AV} {r : Nat × Nat × Option Nat} (hb : bounds 0 (some 0) lo hi mx = some r) {lo' hi' mx' : Option Value} (hlo : OptRel μ lo lo') (hhi : OptRel μ hi hi')
    (hmx : OptRel μ mx mx') {x : Value} (hx : VRel μ .nils x) : Pl P μ w (Instr.sliceAt t x lo' hi' mx') .nils := by
  cases hx
  obtain ⟨l, hh, m⟩ := r
  obtain ⟨h1, h2, h3, h4⟩ := bounds_rel (P := P) (w := w) hb (Nat.le_refl _) (by simp) hlo hhi hmx true
  have hm : m.getD 0 = 0 := by
    cases m with
    | none => rfl
    | some k =>
      -- what lies behind is no more than the capacity
      unfold bounds at hb
      simp only [] at hb
      split at hb
      · simp at hb
      · rename_i m0 hm0
        have : ∀ k, m0 = some k → k = 0 := by
          intro k hk
          subst hk
          cases mx with
          | none => simpa using hm0.symm
          | some v =>
            simp only [] at hm0
            split at hm0
            · split at hm0
              · split at hm0
                · rename_i i _ h0 hle
                  simp only [Option.some.injEq] at hm0
                  have h0 : 0 ≤ i := by simpa using h0
                  have hle : i ≤ 0 := by simpa using hle
                  omega
                · simp at hm0
              · simp at hm0
            · simp at hm0
        split at hb
        · simp at hb
        · split at hb
          · simp only [Option.some.injEq, Prod.mk.injEq] at hb; obtain ⟨_, _, rfl⟩ := hb; simpa using this k rfl
          · split at hb
            · split at hb
              · simp only [Option.some.injEq, Prod.mk.injEq] at hb; obtain ⟨_, _, rfl⟩ := hb; simpa using this k rfl
              · simp at hb
            · simp at hb
  rw [hm] at h1 h3
  have : hh = 0 := by omega
  subst this
  have : l = 0 := by omega
  subst this
  exact ⟨.slice none 0 0, by simp [Instr.sliceAt, Instr.slice, run_underlying ht, h1, run_size hs], rfl⟩

theorem bounds_cap {n c : Nat} {lo hi mx : Option AV} {l hh m : Nat} (hb : bounds n (some c) lo hi mx = some (l, hh, some m)) : m ≤ c := by
  unfold bounds at hb
  simp only [] at hb
  split at hb
  · simp at hb
  · rename_i q hq
    have hqc : ∀ k, q = some k → k ≤ c := by
      intro k hk
      subst hk
      split at hq
      · simp only [Option.some.injEq] at hq; omega
      · split at hq
        · split at hq
          · split at hq
            · simp only [Option.some.injEq] at hq; omega
            · simp at hq
          · simp at hq
        · simp at hq
    split at hb
    · simp at hb
    · split at hb
      · simp only [Option.some.injEq, Prod.mk.injEq] at hb
        exact hqc _ hb.2.2
      · split at hb
        · split at hb
          · simp only [Option.some.injEq, Prod.mk.injEq] at hb
            exact hqc _ hb.2.2
          · simp at hb
        · simp at hb

theorem slX_rs {t e : TypeId} (ht : P.underlying t = some (.slice e)) {s : Nat} (hs : sizeT P e = some s) {a : AA} {n k : Nat} {lo hi mx : Option AV} {l hh m : Nat} (hb : bounds n (some k) lo hi mx = some (l, hh, some m)) {lo' hi' mx' : Option Value}
    (hlo : OptRel μ lo lo') (hhi : OptRel μ hi hi') (hmx : OptRel μ mx mx') {x : Value} (hx : VRel μ (.sl a n (.ex k)) x) :
    Pl P μ w (Instr.sliceAt t x lo' hi' mx') (.sl (if m == l then a else ⟨a.b, a.g, a.o + l * s⟩) (hh - l) (.ex (m - l))) := by
  rcases hx with ⟨rb, hm, rfl, hle⟩ | ⟨rfl, rfl, ad, rfl⟩
  rotate_left
  · obtain ⟨h1, h2, h3, _⟩ := bounds_rel (P := P) (w := w) hb (Nat.le_refl 0) (by simp) hlo hhi hmx true
    simp only [Option.getD_some] at h1 h3
    have hm0 : m = 0 := by have := bounds_cap hb; omega
    have hl0 : l = 0 := by omega
    have hh0 : hh = 0 := by omega
    subst hm0; subst hl0; subst hh0
    refine ⟨.slice (some ad) (0 - 0) (0 - 0), by simp [Instr.sliceAt, Instr.slice, run_underlying ht, h1, run_size hs], ?_⟩
    simp only [BEq.rfl, if_true]
    exact .inr ⟨rfl, rfl, ad, rfl⟩
  obtain ⟨h1, h2, h3, _⟩ := bounds_rel (P := P) (w := w) hb hle (by simp) hlo hhi hmx true
  simp only [Option.getD_some] at h1 h3
  by_cases he : m = l
  · subst he
    refine ⟨.slice (some ⟨rb.r, a.o, none⟩) (hh - m) (m - m), by simp [Instr.sliceAt, Instr.slice, run_underlying ht, h1, run_size hs], ?_⟩
    simp only [BEq.rfl, if_true]
    exact .inl ⟨rb, hm, rfl, by omega⟩
  · refine ⟨.slice (some ⟨rb.r, a.o + l * s, none⟩) (hh - l) (m - l), by simp [Instr.sliceAt, Instr.slice, run_underlying ht, h1, run_size hs, he, add_mul], ?_⟩
    rw [if_neg (by simpa using he)]
    exact .inl ⟨rb, hm, rfl, by omega⟩

theorem slO_rs {t e : TypeId} (ht : P.underlying t = some (.slice e)) {s : Nat} (hs : sizeT P e = some s) {a : AA} {n : Nat} {lo hi mx : Option AV} {l hh : Nat} {m : Option Nat} (hb : bounds n none lo hi mx = some (l, hh, m)) {lo' hi' mx' : Option Value}
    (hlo : OptRel μ lo lo') (hhi : OptRel μ hi hi') (hmx : OptRel μ mx mx') {x : Value} (hx : VRel μ (.sl a n (.op s)) x) :
    (m = none → Pl P μ w (Instr.sliceAt t x lo' hi' mx') (.sl ⟨a.b, a.g, a.o + l * s⟩ (hh - l) (.op s))) ∧
    (∀ k, m = some k → (0 < n ∨ a.o = 0) → Pl P μ w (Instr.sliceAt t x lo' hi' mx') (.sl (if k == l then a else ⟨a.b, a.g, a.o + l * s⟩) (hh - l) (.ex (k - l)))) := by
  obtain ⟨rb, o, c, hm, rfl, hle, hcm, hdis⟩ := hx
  obtain ⟨h1, h2, h3, h4⟩ := bounds_rel (P := P) (w := w) hb hle (by simp) hlo hhi hmx true
  refine ⟨?_, ?_⟩
  · intro hmn
    subst hmn
    simp only [Option.getD_none] at h1 h3
    have := (h4 rfl).1
    by_cases he : c = l
    · subst he
      refine ⟨.slice (some ⟨rb.r, o, none⟩) (hh - c) (c - c), by simp [Instr.sliceAt, Instr.slice, run_underlying ht, h1, run_size hs], rb, o, c - c, hm, rfl, by omega, by omega, .inr ⟨by omega, ?_⟩⟩
      rcases hdis with ⟨rfl, _⟩ | ⟨_, hh⟩
      · exact Nat.le_add_right _ _
      · exact Nat.le_trans hh (Nat.le_add_right _ _)
    · refine ⟨.slice (some ⟨rb.r, o + l * s, none⟩) (hh - l) (c - l), by simp [Instr.sliceAt, Instr.slice, run_underlying ht, h1, run_size hs, he, add_mul], rb, _, c - l, hm, rfl, by omega, by omega, ?_⟩
      rcases hdis with ⟨rfl, hh⟩ | ⟨h5, h6⟩
      · refine .inl ⟨rfl, ?_⟩
        have : (c - l) * s = c * s - l * s := Nat.sub_mul _ _ _
        have : l * s ≤ c * s := Nat.mul_le_mul_right _ (by omega)
        show a.o + l * s + (c - l) * s = rb.n
        omega
      · exact absurd (by omega : c = l) he
  · intro k hk h0
    subst hk
    simp only [Option.getD_some] at h1 h3
    have hoo : o = a.o := by rcases hdis with ⟨e, _⟩ | ⟨e, _⟩ <;> omega
    subst hoo
    by_cases he : k = l
    · subst he
      refine ⟨.slice (some ⟨rb.r, a.o, none⟩) (hh - k) (k - k), by simp [Instr.sliceAt, Instr.slice, run_underlying ht, h1, run_size hs], ?_⟩
      simp only [BEq.rfl, if_true]
      exact .inl ⟨rb, hm, rfl, by omega⟩
    · refine ⟨.slice (some ⟨rb.r, a.o + l * s, none⟩) (hh - l) (k - l), by simp [Instr.sliceAt, Instr.slice, run_underlying ht, h1, run_size hs, he, add_mul], ?_⟩
      rw [if_neg (by simpa using he)]
      exact .inl ⟨rb, hm, rfl, by omega⟩

theorem slA_rs {t arr e : TypeId} {n : Nat} (ht : P.underlying t = some (.array n e) ∨ (P.underlying t = some (.pointer arr) ∧ P.underlying arr = some (.array n e))) {s : Nat} (hs : sizeT P e = some s) {a : AA} {lo hi mx : Option AV} {l hh m : Nat}
    (hb : bounds n (some n) lo hi mx = some (l, hh, some m)) {lo' hi' mx' : Option Value} (hlo : OptRel μ lo lo') (hhi : OptRel μ hi hi') (hmx : OptRel μ mx mx') {x : Value} (hx : VRel μ (.ptr a) x) :
    Pl P μ w (Instr.sliceAt t x lo' hi' mx') (.sl (if m == l then a else ⟨a.b, a.g, a.o + l * s⟩) (hh - l) (.ex (m - l))) := by
  obtain ⟨rb, hm, rfl⟩ := hx
  obtain ⟨h1, h2, h3, _⟩ := bounds_rel (P := P) (w := w) hb (Nat.le_refl _) (by simp) hlo hhi hmx false
  simp only [Option.getD_some] at h1 h3
  by_cases he : m = l
  · subst he
    refine ⟨.slice (some ⟨rb.r, a.o, none⟩) (hh - m) (m - m), ?_, ?_⟩
    · rcases ht with ht | ⟨ht, hu⟩
      · simp [Instr.sliceAt, Instr.sureAddr, run_underlying ht, h1, run_size hs]
      · simp [Instr.sliceAt, Instr.slice, asAddr, run_underlying ht, run_underlying hu, h1, run_size hs]
    · simp only [BEq.rfl, if_true]
      exact .inl ⟨rb, hm, rfl, by omega⟩
  · refine ⟨.slice (some ⟨rb.r, a.o + l * s, none⟩) (hh - l) (m - l), ?_, ?_⟩
    · rcases ht with ht | ⟨ht, hu⟩
      · simp [Instr.sliceAt, Instr.sureAddr, run_underlying ht, h1, run_size hs, he, add_mul]
      · simp [Instr.sliceAt, Instr.slice, asAddr, run_underlying ht, run_underlying hu, h1, run_size hs, he, add_mul]
    · rw [if_neg (by simpa using he)]
      exact .inl ⟨rb, hm, rfl, by omega⟩

/-! ### Places -/

theorem fa_rs {t : TypeId} {fs : Array Field} {i : Nat} {f : Field} (ht : P.underlying t = some (.struct fs)) (hf : fs[i]? = some f) {k : Nat} (hk : sizeT P f.type = some (k + 1)) {a : AA} {x : Value} (hx : VRel μ (.ptr a) x) :
    Pl P μ w (Instr.fieldAt t x i) (.ptr ⟨a.b, a.g, a.o + f.offset⟩) := by
  obtain ⟨rb, hm, rfl⟩ := hx
  exact ⟨.pointer (some ⟨rb.r, a.o + f.offset, none⟩), by simp [Instr.fieldAt, Instr.sureAddr, run_underlying ht, hf, fieldPlace, run_size hk, addr_add], rb, hm, rfl⟩

theorem fd_rs {t : TypeId} {fs : Array Field} {i : Nat} {f : Field} (ht : P.underlying t = some (.struct fs)) (hf : fs[i]? = some f) {g : Option Nat} (hg : aggT P f.type = some g) {cs : List AV} {v : AV} (hp : Det.part cs f.offset g = some v) {x : Value} (hx : VRel μ (.agg cs) x) :
    Pl P μ w (Instr.field t x i) v := by
  obtain ⟨vs, rfl, hv⟩ := hx
  obtain ⟨v', h1, h2⟩ := part_rel (P := P) (w := w) hg hv hp
  exact ⟨v', by simp [Instr.field, run_underlying ht, hf, asAgg, h1], h2⟩

theorem ia_rs {t e : TypeId} (ht : P.underlying t = some (.slice e)) {s : Nat} (hs : sizeT P e = some s) {a : AA} {n : Nat} {c : Cp} {i : AV} {k : Int} (hi : asI i = some k) (h0 : 0 ≤ k) (hn : k < n) {x y : Value} (hx : VRel μ (.sl a n c) x) (hy : VRel μ i y) :
    Pl P μ w (Instr.indexAt t x y) (.ptr ⟨a.b, a.g, a.o + k.toNat * s⟩) := by
  obtain ⟨kk, rfl⟩ := asI_rel hi hy
  have key : ∀ (rb : RB) (q : Nat), μ a.b a.g = some rb → Pl P μ w (Instr.indexAt t (.slice (some ⟨rb.r, a.o, none⟩) n q) (.int kk k)) (.ptr ⟨a.b, a.g, a.o + k.toNat * s⟩) := by
    intro rb q hm
    refine ⟨.pointer (some ⟨rb.r, a.o + k.toNat * s, none⟩), ?_, rb, hm, rfl⟩
    simp [Instr.indexAt, asIntOf, run_underlying ht, h0, hn, run_size hs, add_mul]
  cases c with
  | ex c =>
    rcases hx with ⟨rb, hm, rfl, _⟩ | ⟨rfl, _⟩
    · exact key rb c hm
    · exfalso; omega
  | op e =>
    obtain ⟨rb, o, c, hm, rfl, hle, _, hdis⟩ := hx
    have : o = a.o := by rcases hdis with ⟨e, _⟩ | ⟨e, _⟩ <;> omega
    subst this
    exact key rb c hm

theorem iaA_rs {t e : TypeId} {n : Nat} (ht : P.underlying t = some (.array n e)) {s : Nat} (hs : sizeT P e = some s) {a : AA} {i : AV} {k : Int} (hi : asI i = some k) (h0 : 0 ≤ k) (hn : k < n) {x y : Value} (hx : VRel μ (.ptr a) x) (hy : VRel μ i y) :
    Pl P μ w (Instr.indexAt t x y) (.ptr ⟨a.b, a.g, a.o + k.toNat * s⟩) := by
  obtain ⟨kk, rfl⟩ := asI_rel hi hy
  obtain ⟨rb, hm, rfl⟩ := hx
  refine ⟨.pointer (some ⟨rb.r, a.o + k.toNat * s, none⟩), ?_, rb, hm, rfl⟩
  simp [Instr.indexAt, Instr.sureAddr, asIntOf, run_underlying ht, h0, hn, run_size hs, add_mul]

theorem getL_eq {α : Type} : ∀ (l : List α) (i : Nat), getL l i = l[i]?
  | [], i => by simp [getL]
  | x :: l, 0 => by simp [getL]
  | x :: l, i + 1 => by simp [getL, getL_eq l i]

theorem ixS_rs {t : TypeId} (ht : P.underlying t = some .string) {s : List UInt8} {i : AV} {k : Int} (hi : asI i = some k) (h0 : 0 ≤ k) {b : UInt8} (hb : getL s k.toNat = some b) {x y : Value} (hx : VRel μ (.str s) x) (hy : VRel μ i y) :
    Pl P μ w (Instr.index t x y) (.int .u8 b.toNat) := by
  obtain ⟨kk, rfl⟩ := asI_rel hi hy
  cases hx
  rw [getL_eq] at hb
  have hg : (⟨s.toArray⟩ : ByteArray)[k.toNat]? = some b := by
    obtain ⟨hlt, hb⟩ := List.getElem?_eq_some_iff.1 hb
    rw [getElem?_pos (⟨s.toArray⟩ : ByteArray) k.toNat hlt]
    congr 1
  exact ⟨_, by simp [Instr.index, asIntOf, run_underlying ht, h0, hg], rfl⟩

theorem ixA_rs {t e : TypeId} {n : Nat} (ht : P.underlying t = some (.array n e)) {s : Nat} (hs : sizeT P e = some s) {g : Option Nat} (hg : aggT P e = some g) {cs : List AV} {i : AV} {k : Int} (hi : asI i = some k) (h0 : 0 ≤ k) (hn : k < n) {v : AV}
    (hp : Det.part cs (k.toNat * s) (if g.isSome then some s else none) = some v) {x y : Value} (hx : VRel μ (.agg cs) x) (hy : VRel μ i y) : Pl P μ w (Instr.index t x y) v := by
  obtain ⟨kk, rfl⟩ := asI_rel hi hy
  obtain ⟨vs, rfl, hv⟩ := hx
  have hgs : (if g.isSome then some s else none) = g := by
    cases g with
    | none => rfl
    | some q =>
      unfold aggT at hg
      unfold sizeT at hs
      split at hg <;> simp at hg
      · rename_i h1; rw [h1] at hs; simp at hs; simp; omega
      · rename_i h1; rw [h1] at hs; simp at hs; simp; omega
  rw [hgs] at hp
  obtain ⟨v', h1, h2⟩ := part_rel (P := P) (w := w) hg hv hp
  exact ⟨v', by simp [Instr.index, asIntOf, run_underlying ht, h0, hn, run_size hs, h1], h2⟩

theorem ext_rs {cs : List AV} {i : Nat} {v : AV} (hg : getL cs i = some v) {x : Value} (hx : VRel μ (.tup cs) x) : Pl P μ w (Instr.extract x i) v := by
  obtain ⟨vs, rfl, hv⟩ := hx
  obtain ⟨v', h1, h2⟩ := hv.get hg
  have : vs[i]? = some v' := by simpa using h1
  exact ⟨v', by simp [Instr.extract, this], h2⟩

theorem sap_rs {t e : TypeId} {n : Nat} (ht : P.underlying t = some (.array n e)) {a : AA} {m : Nat} {c : Cp} (hn : n ≤ m) (h0 : 0 < n) {x : Value} (hx : VRel μ (.sl a m c) x) : Pl P μ w (Instr.arrayAt t x) (.ptr a) := by
  have key : ∀ (rb : RB) (q : Nat), μ a.b a.g = some rb → Pl P μ w (Instr.arrayAt t (.slice (some ⟨rb.r, a.o, none⟩) m q)) (.ptr a) := by
    intro rb q hm
    exact ⟨_, by simp [Instr.arrayAt, run_underlying ht, Nat.not_lt.2 hn], rb, hm, rfl⟩
  cases c with
  | ex c =>
    rcases hx with ⟨rb, hm, rfl, _⟩ | ⟨rfl, _⟩
    · exact key rb c hm
    · exfalso; omega
  | op e =>
    obtain ⟨rb, o, c, hm, rfl, hle, _, hdis⟩ := hx
    have : o = a.o := by rcases hdis with ⟨e, _⟩ | ⟨e, _⟩ <;> omega
    subst this
    exact key rb c hm

theorem sapN_rs {t e : TypeId} (ht : P.underlying t = some (.array 0 e)) {x : Value} (hx : VRel μ .nils x) : Pl P μ w (Instr.arrayAt t x) .nilp := by
  cases hx
  exact ⟨_, by simp [Instr.arrayAt, run_underlying ht], rfl⟩

/-! ### Strings, walked -/

theorem iter_rs (W : WRel μ w0 ng h w) {t : TypeId} (ht : P.underlying t = some .string) {s : List UInt8} {x : Value} (hx : VRel μ (.str s) x) :
    Rs P μ w0 ng h w (Instr.range t x) (.ptr ⟨h.n, 0, 0⟩) (h.new (.iter s 0)) := by
  cases hx
  have hW := W.new w rfl rfl rfl rfl (.iter s 0) (.stringIter ⟨s.toArray⟩ 0) 0 rfl rfl rfl
  exact ⟨.pointer (some ⟨w.heap.size, 0, none⟩), _, _, by simp [Instr.range, run_underlying ht], ⟨_, Mu.put_at _ _ _ _, rfl⟩, hW⟩

theorem WRel.obj (W : WRel μ w0 ng h w) {b : Nat} {B : Blk} (hg : h.get b = some B) (h0 : B.gen = 0) (hr : B.ro = false) {rb : RB} (hm : μ b 0 = some rb) : ∃ o, w.heap[rb.r]? = some o ∧ ORel μ rb.n B o := (W.blk b B rb hg (by rw [h0]; exact hm)).1.own hr

/-- An object (no row of cells) is written. -/
theorem WRel.setObj (W : WRel μ w0 ng h w) {b : Nat} {B B' : Blk} (hg : h.get b = some B) (h0 : B.gen = 0) (hr : B.ro = false) (h0' : B'.gen = 0) (hr' : B'.ro = false) {rb : RB} (hm : μ b 0 = some rb) {o : Obj} (ho : ORel μ rb.n B' o) :
    WRel μ w0 ng (h.set b B') { w with heap := w.heap.setIfInBounds rb.r o } ∧ Adv μ h w μ (h.set b B') { w with heap := w.heap.setIfInBounds rb.r o } := by
  have hlt := W.dom _ _ _ hm
  have hch : Chg w { w with heap := w.heap.setIfInBounds rb.r o } rb.r o := by
    refine ⟨rfl, rfl, rfl, by simp, ?_, ?_⟩
    · simp [hlt.1]
    · intro k hk hl
      simp only [Array.getElem?_setIfInBounds]
      rw [if_neg (by omega)]
  have := W.upd b B' rb o (h.get_set b _) (fun k hk => h.get_set_ne b k _ hk) (Nat.le_refl _) hlt.2.1 hch (by simpa using hlt.1) hr'
    (.inr ⟨B, rb, hg, by rw [h0]; exact hm, hr, rfl⟩) (fun g rb1 e1 => by obtain ⟨_, _, B1, h5, h6⟩ := W.dom _ _ _ e1; rw [hg] at h5; cases h5; omega)
    (fun rb1 e1 => by rw [h0', hm] at e1; exact (Option.some.inj e1).symm) (by rw [h0', Mu.put_same hm]; exact ho)
  rw [h0', Mu.put_same hm] at this
  exact this

theorem next_rs (W : WRel μ w0 ng h w) {b : Nat} {s : List UInt8} {pos : Nat} (hg : h.get b = some (.iter s pos)) {x : Value} (hx : VRel μ (.ptr ⟨b, 0, 0⟩) x) (ty : TypeId) {v : AV} {h' : H}
    (hv : (if pos < s.length then some (AV.tup [.bool true, .int .i64 pos, .int .i32 (Utf8.decode ⟨s.toArray⟩ pos).1], h.set b (.iter s (pos + (Utf8.decode ⟨s.toArray⟩ pos).2))) else some (AV.tup [.bool false], h)) = some (v, h')) :
    Rs P μ w0 ng h w (Instr.next x true ty) v h' := by
  obtain ⟨rb, hm, rfl⟩ := hx
  obtain ⟨o, h1, h2⟩ := W.obj hg rfl rfl hm
  cases h2
  by_cases hlt : pos < s.length
  · rw [if_pos hlt] at hv
    simp only [Option.some.injEq, Prod.mk.injEq] at hv
    obtain ⟨rfl, rfl⟩ := hv
    have hW := W.setObj (B' := .iter s (pos + (Utf8.decode ⟨s.toArray⟩ pos).2)) hg rfl rfl rfl rfl hm (o := .stringIter ⟨s.toArray⟩ (pos + (Utf8.decode ⟨s.toArray⟩ pos).2)) rfl
    refine ⟨.tuple #[.bool true, goInt pos, .int .i32 (Utf8.decode ⟨s.toArray⟩ pos).1], _, μ, ?_, ⟨_, rfl, ⟨_, _, rfl, rfl, _, _, rfl, rfl, _, _, rfl, rfl, rfl⟩⟩, hW⟩
    simp [Instr.next, getObj, setObj, Sem.run, h1, ba_size, hlt]
  · rw [if_neg hlt] at hv
    simp only [Option.some.injEq, Prod.mk.injEq] at hv
    obtain ⟨rfl, rfl⟩ := hv
    refine Pl.rs W ⟨.tuple #[.bool false], ?_, _, rfl, ⟨_, _, rfl, rfl, rfl⟩⟩
    simp [Instr.next, getObj, Sem.run, h1, ba_size, hlt]

end
end Go.Det

/- Each operation of the deterministic machine against the real one. -/
set_option linter.unusedVariables false
set_option linter.unusedSimpArgs false
set_option linter.unusedSectionVars false
namespace Go.Det
open Go.RowKit

section
variable {P : Program} {μ : Mu} {w0 : World} {ng : Nat} {h : H} {w : World}

/-! ### copy, conversions of a row to a row -/


theorem srcFirst_rel (W : WRel μ w0 ng h w) {sz k : Nat} {y : AV} {cs : List AV} (hs : srcFirst h sz k y = some cs) (hk : ∀ a n c, y = .sl a n c → k ≤ n) {y' : Value} (hy : VRel μ y y') :
    ∃ vs : List Value, (Builtin.firstCells sz k y').run P w = .ok vs.toArray w ∧ VRels μ cs vs := by
  cases y <;> simp only [srcFirst, reduceCtorEq] at hs
  · rename_i s
    split at hs
    · simp only [Option.some.injEq] at hs
      subst hs
      cases hy
      refine ⟨(s.take k).map fun b => Value.int .u8 b.toNat, ?_, bytesAV_rel _⟩
      rw [show Builtin.firstCells sz k (Value.string ⟨s.toArray⟩) = pure (((⟨s.toArray⟩ : ByteArray).extract 0 k).data.map fun b => .int .u8 b.toNat) from rfl, ba_extract]
      simp
    · simp at hs
  · simp only [Option.some.injEq] at hs
    subst hs
    cases hy
    exact ⟨[], by simp [Builtin.firstCells], VRels.nil⟩
  · rename_i a n c
    have hkn := hk _ _ _ rfl
    have key : ∀ (rb : RB) (o q : Nat), μ a.b a.g = some rb → (o = a.o ∨ k = 0) → ∃ vs : List Value, (Builtin.firstCells sz k (.slice (some ⟨rb.r, o, none⟩) n q)).run P w = .ok vs.toArray w ∧ VRels μ cs vs := by
      intro rb o q hm ho
      obtain ⟨vs, h3, h4, h5⟩ := W.ldn P hs hm
      refine ⟨vs, ?_, h5⟩
      rcases ho with rfl | rfl
      · simpa [Builtin.firstCells] using h3
      · have : vs = [] := by simpa using h4
        subst this
        simp [Builtin.firstCells, loadCells, loadCellsFrom]
    cases c with
    | ex c =>
      rcases hy with ⟨rb, hm, rfl, _⟩ | ⟨rfl, rfl, ad, rfl⟩
      · exact key rb a.o c hm (.inl rfl)
      · have hk0 : k = 0 := by omega
        subst hk0
        refine ⟨[], by simp [Builtin.firstCells, loadCells, loadCellsFrom], ?_⟩
        have : cs = [] := by
          simp only [Nat.zero_mul, H.ldn] at hs
          split at hs
          · exact List.eq_nil_of_length_eq_zero (cut_pre (m := 0) hs)
          · simp at hs
        rw [this]
        exact VRels.nil
    | op e => obtain ⟨rb, o, c, hm, rfl, hn, _, ho⟩ := hy; exact key rb o c hm (by rcases ho with ho | ho; exact .inl ho.1; exact .inr (by omega))

theorem srcLen_rel {y : AV} {m : Nat} (hm : srcLen y = some m) {y' : Value} (hy : VRel μ y y') : (Builtin.lenOf y').run P w = .ok m w := by
  cases y <;> simp only [srcLen, Option.some.injEq, reduceCtorEq] at hm
  · subst hm; cases hy; rfl
  · subst hm; cases hy; rfl
  · subst hm; obtain ⟨_, _, rfl⟩ := sl_of hy; rfl

theorem copy_rs (W : WRel μ w0 ng h w) {t u ty e : TypeId} (ht : P.underlying t = some (.slice e)) {sz : Nat} (hs : sizeT P e = some sz) {x y v : AV} {h' : H}
    (hv : (match x, srcLen y with
      | .nils, some _ => some (Ans.val (.int .i64 0) h)
      | .sl a n _, some m => match srcFirst h sz (Nat.min m n) y with
        | some cs => (h.st a cs).map fun h' => Ans.val (.int .i64 (Nat.min m n : Nat)) h'
        | none => none
      | _, _ => none) = some (.val v h')) {x' y' : Value} (hx : VRel μ x x') (hy : VRel μ y y') :
    Rs P μ w0 ng h w (Builtin.copy_ #[t, u] ty #[x', y']) v h' := by
  split at hv
  · rename_i m hm
    simp only [Option.some.injEq, Ans.val.injEq] at hv
    obtain ⟨rfl, rfl⟩ := hv
    cases hx
    have hl := srcLen_rel (P := P) (w := w) hm hy
    have h0 : (Builtin.firstCells sz 0 y').run P w = .ok #[] w := by
      cases y <;> simp only [srcLen, reduceCtorEq] at hm
      · cases hy
        rename_i s
        rw [show Builtin.firstCells sz 0 (Value.string ⟨s.toArray⟩) = pure (((⟨s.toArray⟩ : ByteArray).extract 0 0).data.map fun b => .int .u8 b.toNat) from rfl, ba_extract]
        simp
      · cases hy; simp [Builtin.firstCells]
      · obtain ⟨_, _, rfl⟩ := sl_of hy; simp [Builtin.firstCells, loadCells, loadCellsFrom]
    refine Pl.rs W ⟨goInt 0, ?_, rfl⟩
    simp only [Builtin.copy_, List.getElem?_toArray, List.getElem?_cons_zero, List.getElem?_cons_succ, Sem.run_bind, run_underlying ht, Result.andThen_ok, hl, run_size hs]
    rw [show Nat.min m 0 = 0 from Nat.min_zero m, h0]
    rfl
  · rename_i a n c m hm
    split at hv
    · rename_i cs hcs
      obtain ⟨h1, h2, h3⟩ := Option.map_eq_some_iff.1 hv
      simp only [Ans.val.injEq] at h3
      obtain ⟨rfl, rfl⟩ := h3
      have hl := srcLen_rel (P := P) (w := w) hm hy
      obtain ⟨vs, h4, h5⟩ := srcFirst_rel (P := P) W hcs (fun a' n' c' e => by subst e; simp only [srcLen, Option.some.injEq] at hm; subst hm; exact Nat.min_le_left _ _) hy
      have key : ∀ (rb : RB) (o q : Nat), μ a.b a.g = some rb → (o = a.o ∨ n = 0) → Rs P μ w0 ng h w (Builtin.copy_ #[t, u] ty #[.slice (some ⟨rb.r, o, none⟩) n q, y']) (.int .i64 (Nat.min m n : Nat)) h1 := by
        intro rb o q hmm ho
        obtain ⟨w', r1, r2, r3⟩ := W.st P h2 h5 hmm
        have r1' : (storeCells ⟨rb.r, o, none⟩ vs).run P w = .ok () w' := by
          rcases ho with rfl | rfl
          · exact r1
          · have hk : Nat.min m 0 = 0 := Nat.min_zero m
            rw [hk] at hcs h4
            have : vs = [] := by
              have hlen := h5.length
              have : cs = [] := by
                cases y <;> simp only [srcFirst, reduceCtorEq] at hcs
                · split at hcs
                  · simpa [bytesAV] using hcs.symm
                  · simp at hcs
                · simpa using hcs.symm
                · simp only [Nat.zero_mul, H.ldn] at hcs
                  split at hcs
                  · exact List.eq_nil_of_length_eq_zero (cut_pre (m := 0) hcs)
                  · simp at hcs
              subst this
              exact List.eq_nil_of_length_eq_zero hlen.symm
            subst this
            exact r1
        refine ⟨goInt (Nat.min m n : Nat), w', μ, ?_, rfl, r2, r3⟩
        simp only [Builtin.copy_, List.getElem?_toArray, List.getElem?_cons_zero, List.getElem?_cons_succ, Sem.run_bind, run_underlying ht, Result.andThen_ok, hl, run_size hs, h4, r1', Sem.run_pure]
      cases c with
      | ex c =>
        rcases hx with ⟨rb, hmm, rfl, _⟩ | ⟨rfl, rfl, ad, rfl⟩
        · exact key rb a.o c hmm (.inl rfl)
        · have hk : Nat.min m 0 = 0 := Nat.min_zero m
          rw [hk] at hcs h4 ⊢
          have hcs0 : cs = [] := by
            cases y <;> simp only [srcFirst, reduceCtorEq] at hcs
            · split at hcs
              · simpa [bytesAV] using hcs.symm
              · simp at hcs
            · simpa using hcs.symm
            · simp only [Nat.zero_mul, H.ldn] at hcs
              split at hcs
              · exact List.eq_nil_of_length_eq_zero (cut_pre (m := 0) hcs)
              · simp at hcs
          subst hcs0
          have hvs : vs = [] := List.eq_nil_of_length_eq_zero h5.length.symm
          subst hvs
          have hsame : (∀ q, h1.get q = h.get q) ∧ h1.n = h.n := st_nil h2
          refine ⟨goInt 0, w, μ, ?_, rfl, W.same hsame.1 hsame.2, Adv.same hsame.1 hsame.2⟩
          simp only [Builtin.copy_, List.getElem?_toArray, List.getElem?_cons_zero, List.getElem?_cons_succ, Sem.run_bind, run_underlying ht, Result.andThen_ok, hl, run_size hs, hk, h4, storeCells, Sem.run_pure]
          rfl
      | op e => obtain ⟨rb, o, c, hmm, rfl, hn, _, ho⟩ := hx; exact key rb o c hmm (by rcases ho with ho | ho; exact .inl ho.1; exact .inr (by omega))
    · simp at hv
  · simp at hv

theorem cvBB_rs (W : WRel μ w0 ng h w) {t e : TypeId} (ht : P.underlying t = some (.slice e)) (he : P.underlying e = some (.int .u8)) {a : AA} {n : Nat} {c : Cp} {g : Nat} {eb : TypeId} {cs : List AV} (hg : h.get a.b = some (.cells g eb cs 0 false)) (hgen : g = a.g) (hc0 : c ≠ .ex 0)
    {x : Value} (hx : VRel μ (.sl a n c) x) : Rs P μ w0 ng h w (convert t t x) (.sl a n c) h := by
  subst hgen
  have hx0 := hx
  obtain ⟨rb, ad, k, hm, rfl, hb, hsp⟩ : ∃ rb ad k, μ a.b a.g = some rb ∧ x = .slice (some ad) n k ∧ ad.block = rb.r ∧ ad.spot = none := by
    cases c with
    | ex c =>
      rcases hx with ⟨rb, hm, rfl, _⟩ | ⟨rfl, rfl, ad, rfl⟩
      · exact ⟨rb, _, c, hm, rfl, rfl, rfl⟩
      · exact absurd rfl hc0
    | op e => obtain ⟨rb, o, c, hm, rfl, _⟩ := hx; exact ⟨rb, _, c, hm, rfl, rfl, rfl⟩
  obtain ⟨⟨ob, h1, h2⟩, h3⟩ := (W.blk _ _ rb hg hm).imp (fun x => x.own rfl) id
  obtain ⟨row, lo, hi, rfl, hsz, hpre, hlh, hfr⟩ := h2
  have hlt := W.dom _ _ _ hm
  let w' : World := w.freeze ⟨ad.block, row.size, none⟩ 1
  have hch : Chg w w' rb.r (.cells row eb (if lo == hi then (row.size, row.size + 1) else (min lo row.size, max hi (row.size + 1)))) := by
    refine ⟨rfl, rfl, rfl, by simp [w', World.freeze], ?_, ?_⟩
    · simp only [w', World.freeze, Nat.one_ne_zero, if_false, hb]
      rw [Array.getElem?_modify, if_pos rfl, h1]
      rfl
    · intro k hk hl
      simp only [w', World.freeze, Nat.one_ne_zero, if_false, hb]
      rw [Array.getElem?_modify, if_neg (Ne.symm hk)]
  have hB : ORel (μ.put a.b a.g rb) rb.n (.cells a.g eb cs 0 false) (.cells row eb (if lo == hi then (row.size, row.size + 1) else (min lo row.size, max hi (row.size + 1)))) := by
    rw [Mu.put_same hm]
    by_cases he : lo = hi
    · subst he
      simp only [BEq.rfl, if_true]
      exact ⟨row, _, _, rfl, hsz, hpre, Nat.le_succ _, fun i hi1 _ => .inr (by omega)⟩
    · have : (lo == hi) = false := by simpa using he
      rw [this]
      have hlo : rb.n ≤ lo := by rcases hfr lo (Nat.le_refl _) (by omega) with h | h <;> omega
      exact ⟨row, _, _, rfl, hsz, hpre, by omega, fun i hi1 _ => .inr (by omega)⟩
  have hW := W.upd a.b (.cells a.g eb cs 0 false) rb _ (h' := h) hg (fun _ _ => rfl) (Nat.le_refl _) hlt.2.1 hch (by simpa [w', World.freeze] using hlt.1) rfl (.inr ⟨_, rb, hg, hm, rfl, rfl⟩)
    (fun g rb1 e1 => by obtain ⟨_, _, B, h5, h6⟩ := W.dom _ _ _ e1; rw [hg] at h5; cases h5; exact h6) (fun rb1 e1 => by rw [show (Blk.cells a.g eb cs 0 false).gen = a.g from rfl, hm] at e1; exact (Option.some.inj e1).symm) hB
  rw [show (Blk.cells a.g eb cs 0 false).gen = a.g from rfl, Mu.put_same hm] at hW
  refine ⟨_, w', μ, ?_, hx0, hW⟩
  have hshape : w.shape? ad.block = some (eb, row.size) := by simp [World.shape?, hb, h1]
  simp [convert, run_underlying ht, run_underlying he, markStringish, hshape, w']

/-! ### The whole -/

/-- A step of the machine: what it hands on, and the state behind it. -/
def Stp (P : Program) (μ : Mu) (w0 : World) (ng : Nat) (h : H) (w : World) (s : Sem Next) (v : AV) (h' : H) : Prop :=
  ∃ nx v' w' μ', s.run P w = .ok nx w' ∧ (nx = .value v' ∨ (nx = .skip ∧ v' = undef)) ∧ VRel μ' v v' ∧ WRel μ' w0 ng h' w' ∧ Adv μ h w μ' h' w'

theorem Rs.stp {s : Sem Value} {v : AV} {h' : H} (hs : Rs P μ w0 ng h w s v h') : Stp P μ w0 ng h w (do pure (.value (← s))) v h' := by
  obtain ⟨v', w', μ', h1, h2⟩ := hs
  exact ⟨_, v', w', μ', by simp [h1], .inl rfl, h2⟩

theorem Pl.stp (W : WRel μ w0 ng h w) {s : Sem Value} {v : AV} (hs : Pl P μ w s v) : Stp P μ w0 ng h w (do pure (.value (← s))) v h := (hs.rs W).stp

theorem Stp.val (W : WRel μ w0 ng h w) {v : AV} {v' : Value} (hv : VRel μ v v') : Stp P μ w0 ng h w (pure (.value v')) v h :=
  ⟨_, v', w, μ, rfl, .inl rfl, hv, W, Adv.refl _ _ _⟩

theorem ofOpt_rel {ρA : IX → AV} {ρ : Operand → Value} {o : Option Operand} (hρ : ∀ x ∈ o.toList, ∀ X, ofOpd P x = some X → VRel μ (ρA X) (ρ x)) {O : Option IX} (ho : ofOpt P o = some O) : OptRel μ (O.map ρA) (o.map ρ) := by
  cases o with
  | none => simp only [ofOpt, Option.some.injEq] at ho; subst ho; trivial
  | some x =>
    simp only [ofOpt, Option.map_eq_some_iff] at ho
    obtain ⟨X, h1, rfl⟩ := ho
    exact hρ _ (by simp) _ h1

theorem ofOpds_rel {ρA : IX → AV} {ρ : Operand → Value} : ∀ (l : List Operand) (L : List IX), (∀ x ∈ l, ∀ X, ofOpd P x = some X → VRel μ (ρA X) (ρ x)) → ofOpds P l = some L → VRels μ (L.map ρA) (l.map ρ)
  | [], L, _, h => by simp only [ofOpds, Option.some.injEq] at h; subst h; exact VRels.nil
  | x :: l, L, hρ, h => by
    simp only [ofOpds] at h
    split at h
    · rename_i a r h1 h2
      simp only [Option.some.injEq] at h
      subst h
      exact ⟨_, _, rfl, hρ _ (by simp) _ h1, ofOpds_rel l r (fun y hy => hρ y (by simp [hy])) h2⟩
    · simp at h

end
end Go.Det

/- A step of the deterministic machine is a step of the real one. -/
set_option linter.unusedVariables false
set_option linter.unusedSimpArgs false
set_option linter.unusedSectionVars false
namespace Go.Det
open Go.RowKit

section
variable {P : Program} {μ : Mu} {w0 : World} {ng : Nat} {h : H} {w : World} {ρA : IX → AV} {ρ : Operand → Value}

theorem sl_slice {t e : TypeId} (ht : P.underlying t = some (.slice e)) {s : Nat} (hs : sizeT P e = some s) {x : Operand} {lo hi mx : Option Operand} {X : IX} {Lo Hi Mx : Option IX}
    (hρ : ∀ y ∈ (x :: (lo.toList ++ hi.toList ++ mx.toList)), ∀ X, ofOpd P y = some X → VRel μ (ρA X) (ρ y))
    (hx : ofOpd P x = some X) (hlo : ofOpt P lo = some Lo) (hhi : ofOpt P hi = some Hi) (hmx : ofOpt P mx = some Mx) {v : AV} {h' : H} (hi' : iop (.slL s X Lo Hi Mx) ρA h = some (.val v h')) :
    h' = h ∧ Pl P μ w (Instr.sliceAt t (ρ x) (lo.map ρ) (hi.map ρ) (mx.map ρ)) v := by
  have hX := hρ _ (by simp) _ hx
  have hL := ofOpt_rel (fun y hy => hρ y (by simp [List.mem_cons, List.mem_append, hy])) hlo
  have hH := ofOpt_rel (fun y hy => hρ y (by simp [List.mem_cons, List.mem_append, hy])) hhi
  have hM := ofOpt_rel (fun y hy => hρ y (by simp [List.mem_cons, List.mem_append, hy])) hmx
  simp only [iop] at hi'
  split at hi'
  · rename_i he
    rw [he] at hX
    split at hi'
    · rename_i r hb
      simp only [Option.some.injEq, Ans.val.injEq] at hi'
      obtain ⟨rfl, rfl⟩ := hi'
      exact ⟨rfl, slN_rs ht hs hb hL hH hM hX⟩
    · simp at hi'
  · rename_i a n c he
    rw [he] at hX
    split at hi'
    · rename_i l hh m hb
      cases c with
      | ex k =>
        simp only [if_true, Option.some.injEq, Ans.val.injEq] at hi'
        obtain ⟨rfl, rfl⟩ := hi'
        exact ⟨rfl, slX_rs ht hs hb hL hH hM hX⟩
      | op e' =>
        simp only [] at hi'
        split at hi'
        · rename_i hcond
          simp only [Option.some.injEq, Ans.val.injEq] at hi'
          obtain ⟨rfl, rfl⟩ := hi'
          simp only [Bool.and_eq_true, Bool.or_eq_true, decide_eq_true_eq, beq_iff_eq] at hcond
          obtain ⟨rfl, hcond⟩ := hcond
          exact ⟨rfl, (slO_rs ht hs hb hL hH hM hX).2 m rfl hcond⟩
        · simp at hi'
    · rename_i l hh hb
      split at hi'
      · rename_i e'
        split at hi'
        · rename_i hee
          have hee : e' = s := by simpa using hee
          subst hee
          simp only [Option.some.injEq, Ans.val.injEq] at hi'
          obtain ⟨rfl, rfl⟩ := hi'
          exact ⟨rfl, (slO_rs ht hs hb hL hH hM hX).1 rfl⟩
        · simp at hi'
      · simp at hi'
    · simp at hi'
  · simp at hi'

theorem sl_array {t arr e : TypeId} {n : Nat} (ht : P.underlying t = some (.array n e) ∨ (P.underlying t = some (.pointer arr) ∧ P.underlying arr = some (.array n e))) {s : Nat} (hs : sizeT P e = some s)
    {x : Operand} {lo hi mx : Option Operand} {X : IX} {Lo Hi Mx : Option IX} (hρ : ∀ y ∈ (x :: (lo.toList ++ hi.toList ++ mx.toList)), ∀ X, ofOpd P y = some X → VRel μ (ρA X) (ρ y))
    (hx : ofOpd P x = some X) (hlo : ofOpt P lo = some Lo) (hhi : ofOpt P hi = some Hi) (hmx : ofOpt P mx = some Mx) {v : AV} {h' : H} (hi' : iop (.slA n s X Lo Hi Mx) ρA h = some (.val v h')) :
    h' = h ∧ Pl P μ w (Instr.sliceAt t (ρ x) (lo.map ρ) (hi.map ρ) (mx.map ρ)) v := by
  have hX := hρ _ (by simp) _ hx
  have hL := ofOpt_rel (fun y hy => hρ y (by simp [List.mem_cons, List.mem_append, hy])) hlo
  have hH := ofOpt_rel (fun y hy => hρ y (by simp [List.mem_cons, List.mem_append, hy])) hhi
  have hM := ofOpt_rel (fun y hy => hρ y (by simp [List.mem_cons, List.mem_append, hy])) hmx
  simp only [iop] at hi'
  split at hi'
  · rename_i a he
    rw [he] at hX
    split at hi'
    · rename_i l hh m hb
      simp only [Option.some.injEq, Ans.val.injEq] at hi'
      obtain ⟨rfl, rfl⟩ := hi'
      exact ⟨rfl, slA_rs ht hs hb hL hH hM hX⟩
    · simp at hi'
  · simp at hi'

theorem eqGuard_flat {op : BinOp} {t : TypeId} {X Y : Operand} {a b : Value} (h1 : ¬ (a = .nilIface ∧ b = .nilIface) ∨ isLit X = true ∨ isLit Y = true) (h2 : ∀ xs, a ≠ .agg xs) : (eqGuard op t X Y a b).run P w = .ok () w := by
  unfold eqGuard
  by_cases hop : (op matches .eql | .neq) = true
  · cases op <;> simp only [Bool.false_eq_true] at hop <;> (cases a <;> cases b <;> first
      | rfl
      | (exact absurd rfl (h2 _))
      | (rcases h1 with h1 | h1 | h1
         · exact absurd ⟨rfl, rfl⟩ h1
         · cases X <;> simp [isLit] at h1; simp
         · cases Y <;> simp [isLit] at h1; simp))
  · cases op <;> first | rfl | (simp at hop)

theorem binOp_eq {t : TypeId} {a b : AV} {d : EqD} (hd : d.flat = true) {n f : Nat} (ht : eqdOf P n t = some d) {r : Bool} (hr : eqv f d a b = some r) {a' b' : Value} (ha : VRel μ a a') (hb : VRel μ b b') (hni : ∀ k x, a' ≠ .int k x) (hns : ∀ s, a' ≠ .string s) :
    (binOp .eql t a' b').run P w = .ok (.bool r) w ∧ (binOp .neq t a' b').run P w = .ok (.bool (!r)) w := by
  have key := eqv_rel (P := P) (w := w) (D := 9999) hd ht hr ha hb
  have hnf : ∀ k x, a' ≠ .float k x := by
    intro k x e; subst e
    cases a <;> first | (cases ha; done) | (obtain ⟨_, _, h⟩ := ha; cases h; done) | (obtain ⟨_, _, h, _⟩ := ha; cases h; done) | (obtain ⟨_, h, _⟩ := ha; cases h; done) | (obtain ⟨_, _, h⟩ := sl_of ha; cases h; done)
  have hnc : ∀ k x y, a' ≠ .complex k x y := by
    intro k x y e; subst e
    cases a <;> first | (cases ha; done) | (obtain ⟨_, _, h⟩ := ha; cases h; done) | (obtain ⟨_, _, h, _⟩ := ha; cases h; done) | (obtain ⟨_, h, _⟩ := ha; cases h; done) | (obtain ⟨_, _, h⟩ := sl_of ha; cases h; done)
  constructor
  · cases a' <;> first
      | (exact absurd rfl (hni _ _)) | (exact absurd rfl (hns _)) | (exact absurd rfl (hnf _ _)) | (exact absurd rfl (hnc _ _ _))
      | (simp only [binOp, Sem.run_bind, Op.equal, Op.maxDepth, key, Result.andThen_ok, Sem.run_pure])
  · cases a' <;> first
      | (exact absurd rfl (hni _ _)) | (exact absurd rfl (hns _)) | (exact absurd rfl (hnf _ _)) | (exact absurd rfl (hnc _ _ _))
      | (simp only [binOp, Sem.run_bind, Op.equal, Op.maxDepth, key, Result.andThen_ok, Sem.run_pure])

theorem flat_of {n : Nat} {t : TypeId} {d : EqD} (h : eqdOf P n t = some d) (h1 : ∀ fs, P.underlying t ≠ some (.struct fs)) (h2 : ∀ k e, P.underlying t ≠ some (.array k e)) : d.flat = true := by
  cases n with
  | zero => simp [eqdOf] at h
  | succ n =>
    simp only [eqdOf] at h
    split at h
    · simp only [Option.some.injEq] at h; subst h; rfl
    · simp only [Option.some.injEq] at h; subst h; rfl
    · simp only [Option.some.injEq] at h; subst h; rfl
    · split at h
      · simp only [Option.some.injEq] at h; subst h; rfl
      · simp at h
    · simp only [Option.some.injEq] at h; subst h; rfl
    · simp only [Option.some.injEq] at h; subst h; rfl
    · simp only [Option.some.injEq] at h; subst h; rfl
    · simp only [Option.some.injEq] at h; subst h; rfl
    · rename_i fs hu; exact absurd hu (h1 _)
    · rename_i k e hu; exact absurd hu (h2 _ _)
    · simp at h

/-- Arrays and structs held against each other. -/
theorem eq_agg_step {t : TypeId} {op : BinOp} {neg lit : Bool} (hop : op = if neg then .neq else .eql) {x y : Operand} {X Y : IX} (hρ : ∀ z ∈ [x, y], ∀ X, ofOpd P z = some X → VRel μ (ρA X) (ρ z)) (hx : ofOpd P x = some X) (hy : ofOpd P y = some Y) {d : EqD} (hd : eqdOf P 20 t = some d) (hf : ¬ d.flat = true)
    (hg : P.eqGuardType P.depth t = false) {v : AV} {h' : H} (hi : iop (.eq d neg lit X Y) ρA h = some (.val v h')) :
    h' = h ∧ Pl P μ w (do eqGuard op t x y (ρ x) (ρ y); binOp op t (ρ x) (ρ y)) v := by
  have hX := hρ x (by simp) _ hx
  have hY := hρ y (by simp) _ hy
  have key : ∀ (a b : AV), ρA X = a → ρA Y = b → (eqv 1000 d a b).map (fun r => Ans.val (.bool (r != neg)) h) = some (.val v h') → h' = h ∧ Pl P μ w (do eqGuard op t x y (ρ x) (ρ y); binOp op t (ρ x) (ρ y)) v := by
    intro a b ea eb hm
    obtain ⟨r, hr, e⟩ := Option.map_eq_some_iff.1 hm
    simp only [Ans.val.injEq] at e
    obtain ⟨rfl, rfl⟩ := e
    rw [ea] at hX
    rw [eb] at hY
    have hq := eqv_all (P := P) (w := w) 20 (D := 9980) hd hr hX hY
    have hagg : ∃ cs ds, a = .agg cs ∧ b = .agg ds := by
      cases d <;> simp only [EqD.flat, not_true_eq_false] at hf <;> (cases a <;> cases b <;> simp only [eqv, reduceCtorEq] at hr) <;> exact ⟨_, _, rfl, rfl⟩
    obtain ⟨cs, ds, rfl, rfl⟩ := hagg
    obtain ⟨xs, e1, _⟩ := agg_of hX
    obtain ⟨ys, e2, _⟩ := agg_of hY
    rw [e1, e2] at hq ⊢
    refine ⟨rfl, .bool (r != neg), ?_, rfl⟩
    rw [Sem.run_bind, run_eqGuard_agg w op t x y xs ys hg]
    simp only [Result.andThen_ok]
    subst hop
    cases neg
    · simp only [Bool.false_eq_true, if_false]
      rw [run_eql_struct, hq]
      simp
    · simp only [if_true]
      rw [run_neq_struct, hq]
      simp
  simp only [iop] at hi
  split at hi
  · rename_i ea eb
    split at hi
    · exact key _ _ ea eb hi
    · simp at hi
  · exact key _ _ rfl rfl hi

theorem eq_step {t : TypeId} {op : BinOp} {neg : Bool} (hop : op = if neg then .neq else .eql) {x y : Operand} {X Y : IX} (hρ : ∀ z ∈ [x, y], ∀ X, ofOpd P z = some X → VRel μ (ρA X) (ρ z)) (hx : ofOpd P x = some X) (hy : ofOpd P y = some Y) {d : EqD} {n : Nat} (hd : eqdOf P n t = some d) (hf : d.flat = true)
    (hni : ∀ k, P.underlying t ≠ some (.int k)) (hns : P.underlying t ≠ some .string) {v : AV} {h' : H} (hi : iop (.eq d neg (isLit x || isLit y) X Y) ρA h = some (.val v h')) :
    h' = h ∧ Pl P μ w (do eqGuard op t x y (ρ x) (ρ y); binOp op t (ρ x) (ρ y)) v := by
  have hX := hρ x (by simp) _ hx
  have hY := hρ y (by simp) _ hy
  have hdn : d ≠ .num := by
    intro e; subst e
    cases n with
    | zero => simp [eqdOf] at hd
    | succ n =>
      simp only [eqdOf] at hd
      split at hd <;> first | (rename_i hu; exact absurd hu (hni _)) | (simp at hd; done) | (split at hd <;> simp at hd; done) | skip
      all_goals first | (split at hd <;> simp at hd) | skip
  have hds : d ≠ .str := by
    intro e; subst e
    cases n with
    | zero => simp [eqdOf] at hd
    | succ n =>
      simp only [eqdOf] at hd
      split at hd <;> first | (rename_i hu; exact absurd hu hns) | (simp at hd; done) | (split at hd <;> simp at hd; done) | skip
      all_goals first | (split at hd <;> simp at hd) | skip
  have fin : ∀ (a b : AV) (r : Bool), VRel μ a (ρ x) → VRel μ b (ρ y) → (¬ (a = .nili ∧ b = .nili) ∨ isLit x = true ∨ isLit y = true) → eqv 1000 d a b = some r → Pl P μ w (do eqGuard op t x y (ρ x) (ρ y); binOp op t (ρ x) (ρ y)) (.bool (r != neg)) := by
    intro a b r ha hb hlit hr
    have hagg : ∀ xs, ρ x ≠ .agg xs := by
      intro xs e
      rw [e] at ha
      cases a <;> first
        | (cases ha; done) | (obtain ⟨_, _, h⟩ := ha; cases h; done) | (obtain ⟨_, _, h, _⟩ := ha; cases h; done) | (obtain ⟨_, h, _⟩ := ha; cases h; done) | (obtain ⟨_, _, h⟩ := sl_of ha; cases h; done)
        | (cases d <;> cases b <;> simp [eqv, EqD.flat] at hr hf)
    have hint : ∀ k q, ρ x ≠ .int k q := by
      intro k q e
      rw [e] at ha
      cases a <;> first
        | (obtain ⟨_, _, h⟩ := ha; cases h; done) | (obtain ⟨_, _, h, _⟩ := ha; cases h; done) | (obtain ⟨_, h, _⟩ := ha; cases h; done) | (obtain ⟨_, _, h⟩ := sl_of ha; cases h; done)
        | (cases d <;> cases b <;> simp [eqv, EqD.flat] at hr hf hdn; done)
        | (cases ha; done)
    have hstr : ∀ s, ρ x ≠ .string s := by
      intro s e
      rw [e] at ha
      cases a <;> first
        | (obtain ⟨_, _, h⟩ := ha; cases h; done) | (obtain ⟨_, _, h, _⟩ := ha; cases h; done) | (obtain ⟨_, h, _⟩ := ha; cases h; done) | (obtain ⟨_, _, h⟩ := sl_of ha; cases h; done)
        | (cases d <;> cases b <;> simp [eqv, EqD.flat] at hr hf hds; done)
        | (cases ha; done)
    have hnil : ¬ (ρ x = .nilIface ∧ ρ y = .nilIface) ∨ isLit x = true ∨ isLit y = true := by
      rcases hlit with h1 | h1
      · refine .inl fun ⟨e1, e2⟩ => h1 ⟨?_, ?_⟩
        · rw [e1] at ha
          cases a <;> first | rfl | (cases ha; done) | (obtain ⟨_, _, h⟩ := ha; cases h; done) | (obtain ⟨_, _, h, _⟩ := ha; cases h; done) | (obtain ⟨_, h, _⟩ := ha; cases h; done) | (obtain ⟨_, _, h⟩ := sl_of ha; cases h; done)
        · rw [e2] at hb
          cases b <;> first | rfl | (cases hb; done) | (obtain ⟨_, _, h⟩ := hb; cases h; done) | (obtain ⟨_, _, h, _⟩ := hb; cases h; done) | (obtain ⟨_, h, _⟩ := hb; cases h; done) | (obtain ⟨_, _, h⟩ := sl_of hb; cases h; done)
      · exact .inr h1
    have hg := eqGuard_flat (P := P) (w := w) (op := op) (t := t) hnil hagg
    have hb2 := binOp_eq (P := P) (w := w) hf hd hr ha hb hint hstr
    refine ⟨.bool (r != neg), ?_, rfl⟩
    simp only [Sem.run_bind, hg, Result.andThen_ok]
    subst hop
    cases neg
    · simpa using hb2.1
    · simpa using hb2.2
  simp only [iop] at hi
  split at hi
  · rename_i e1 e2
    split at hi
    · rename_i hlit
      obtain ⟨r, h1, h2⟩ := Option.map_eq_some_iff.1 hi
      simp only [Ans.val.injEq] at h2
      obtain ⟨rfl, rfl⟩ := h2
      rw [e1] at hX
      rw [e2] at hY
      exact ⟨rfl, fin .nili .nili r hX hY (.inr (by simpa using hlit)) h1⟩
    · simp at hi
  · obtain ⟨r, h1, h2⟩ := Option.map_eq_some_iff.1 hi
    simp only [Ans.val.injEq] at h2
    obtain ⟨rfl, rfl⟩ := h2
    rename_i hnn
    exact ⟨rfl, fin _ _ r hX hY (.inl fun ⟨e1, e2⟩ => hnn e1 e2) h1⟩

theorem builtin_run {b : Builtin} {args : Array Operand} {ats : Array TypeId} {ty : TypeId} (dst : Option Tmp) (pos : String) (after : Array Edge) (guard : Option (Nat × Bool)) :
    ∃ cs, (execOp ρ ⟨dst, .call ⟨.builtin b, args, ats⟩, ty, pos, after, guard⟩).run P w = (builtin b ats ty cs (args.map ρ)).run P w :=
  ⟨_, by simp only [execOp, resolve, invoke, Sem.run_bind, Sem.run_pure, Result.andThen_ok]; rfl⟩

theorem ofOpds_one {l : List Operand} {x : IX} (h : ofOpds P l = some [x]) : ∃ p, l = [p] ∧ ofOpd P p = some x := by
  cases l with
  | nil => simp [ofOpds] at h
  | cons p l =>
    simp only [ofOpds] at h
    split at h
    · rename_i a r h1 h2
      simp only [Option.some.injEq, List.cons.injEq] at h
      obtain ⟨rfl, rfl⟩ := h
      cases l with
      | nil => exact ⟨p, rfl, h1⟩
      | cons q l => simp only [ofOpds] at h2; split at h2 <;> simp at h2
    · simp at h

theorem ofOpds_two {l : List Operand} {x y : IX} (h : ofOpds P l = some [x, y]) : ∃ p q, l = [p, q] ∧ ofOpd P p = some x ∧ ofOpd P q = some y := by
  cases l with
  | nil => simp [ofOpds] at h
  | cons p l =>
    simp only [ofOpds] at h
    split at h
    · rename_i a r h1 h2
      simp only [Option.some.injEq, List.cons.injEq] at h
      obtain ⟨rfl, rfl⟩ := h
      obtain ⟨q, rfl, h3⟩ := ofOpds_one h2
      exact ⟨p, q, rfl, h1, h3⟩
    · simp at h

theorem call_step {c : Call} {ty : TypeId} {X : IOp} (hc : compOp P (.call c) ty = some X) {ts : List AV} (hρ : ∀ x ∈ c.args.toList, ∀ X, ofOpd P x = some X → VRel μ (ev ts X) (ρ x)) (W : WRel μ w0 ng h w) {v : AV} {h' : H} (hi : iop X (ev ts) h = some (.val v h')) (dst : Option Tmp) (pos : String) (after : Array Edge)
    (guard : Option (Nat × Bool)) : Stp P μ w0 ng h w (execOp ρ ⟨dst, .call c, ty, pos, after, guard⟩) v h' := by
  obtain ⟨callee, args, ats⟩ := c
  simp only [compOp, compCall] at hc
  split at hc
  · simp at hc
  · rename_i iargs hargs
    split at hc
    · split at hc
      · split at hc
        · simp only [Option.some.injEq] at hc; subst hc; simp [iop] at hi
        · simp at hc
      · simp at hc
    · rename_i f _
      obtain ⟨g, _, rfl⟩ := Option.map_eq_some_iff.1 hc
      simp only [iop] at hi
      split at hi <;> simp at hi
    · simp at hc
    · rename_i b
      have fin : ∀ {s : Sem Value}, (∀ cs, builtin b ats ty cs (args.map ρ) = (do pure (Next.value (← s)) : Sem Next)) → Rs P μ w0 ng h w s v h' → Stp P μ w0 ng h w (execOp ρ ⟨dst, .call ⟨.builtin b, args, ats⟩, ty, pos, after, guard⟩) v h' := by
        intro s hs hr
        obtain ⟨nx, v', w', μ', h1, h2⟩ := hr.stp
        obtain ⟨cs, hcs⟩ := builtin_run (P := P) (w := w) (ρ := ρ) (b := b) (args := args) (ats := ats) (ty := ty) dst pos after guard
        exact ⟨nx, v', w', μ', by rw [hcs, hs]; exact h1, h2⟩
      have arr : ∀ {l : List Operand}, args.toList = l → args.map ρ = (l.map ρ).toArray := by intro l e; subst e; apply Array.ext'; simp
      have tarr : ∀ {l : List TypeId}, ats.toList = l → ats = l.toArray := by intro l e; subst e; rfl
      split at hc
      · -- append
        rename_i x y t u hats
        obtain ⟨p, q, hpq, hp, hq⟩ := ofOpds_two hargs
        obtain rfl := tarr hats
        rw [arr hpq] at fin
        split at hc
        · rename_i e d ht hu
          split at hc
          · rename_i i hinfo
            split at hc
            · rename_i z hz
              split at hc
              · rename_i hcond
                simp only [Bool.and_eq_true, beq_iff_eq, decide_eq_true_eq] at hcond
                obtain ⟨⟨hc1, hc2⟩, hc3⟩ := hcond
                simp only [Option.some.injEq] at hc
                subst hc
                simp only [iop] at hi
                split at hi
                · rename_i hst
                  have hst : isStrV (ev ts y) = isStrD d := by simpa using hst
                  refine fin (s := Builtin.append_ #[t, u] ty #[ρ p, ρ q]) (fun cs => rfl) ?_
                  refine append_rs W ht hu hinfo hz hc1 hc2 hc3 hi (hρ _ (by simp [hpq]) _ hp) (hρ _ (by simp [hpq]) _ hq) ?_ ?_
                  · intro s e
                    rw [e] at hst
                    cases d <;> first | rfl | (simp [isStrV, isStrD] at hst)
                  · intro hn e
                    subst e
                    cases hy : ev ts y <;> first | (exact absurd hy (hn _)) | (rw [hy] at hst; simp [isStrV, isStrD] at hst)
                · simp at hi
              · simp at hc
            · simp at hc
          · simp at hc
        · simp at hc
      · -- len
        rename_i x t hats
        obtain ⟨p, hpq, hp⟩ := ofOpds_one hargs
        obtain rfl := tarr hats
        rw [arr hpq] at fin
        have hP := hρ _ (by simp [hpq]) _ hp
        split at hc
        · rename_i ht
          simp only [Option.some.injEq] at hc
          subst hc
          refine fin (s := Builtin.len_ #[t] ty #[ρ p]) (fun cs => rfl) ?_
          simp only [iop, if_true] at hi
          split at hi <;> simp only [Option.some.injEq, Ans.val.injEq, reduceCtorEq] at hi
          rename_i s he
          rw [he] at hP
          obtain ⟨rfl, rfl⟩ := hi
          exact Pl.rs W ⟨.int .i64 s.length, by rw [show ρ p = _ from hP]; simp [Builtin.len_, run_underlying ht, ba_size, goInt], rfl⟩
        · rename_i e ht
          simp only [Option.some.injEq] at hc
          subst hc
          refine fin (s := Builtin.len_ #[t] ty #[ρ p]) (fun cs => rfl) ?_
          simp only [iop, Bool.false_eq_true, if_false] at hi
          split at hi <;> simp only [Option.some.injEq, Ans.val.injEq, reduceCtorEq] at hi
          · rename_i he
            rw [he] at hP
            obtain ⟨rfl, rfl⟩ := hi
            exact Pl.rs W ⟨.int .i64 0, by rw [show ρ p = _ from hP]; simp [Builtin.len_, run_underlying ht, goInt], rfl⟩
          · rename_i a n c he
            rw [he] at hP
            obtain ⟨rfl, rfl⟩ := hi
            obtain ⟨_, _, hs⟩ := sl_of hP
            exact Pl.rs W ⟨.int .i64 n, by rw [hs]; simp [Builtin.len_, run_underlying ht, goInt], rfl⟩
        · rename_i n e ht
          simp only [Option.some.injEq] at hc
          subst hc
          simp only [iop, ev, Option.some.injEq, Ans.val.injEq] at hi
          obtain ⟨rfl, rfl⟩ := hi
          exact fin (s := Builtin.len_ #[t] ty #[ρ p]) (fun cs => rfl) (Pl.rs W ⟨.int .i64 n, by simp [Builtin.len_, run_underlying ht, goInt], rfl⟩)
        · simp at hc
      · -- copy
        rename_i x y t u hats
        obtain ⟨p, q, hpq, hp, hq⟩ := ofOpds_two hargs
        obtain rfl := tarr hats
        rw [arr hpq] at fin
        split at hc
        · rename_i e ht
          obtain ⟨sz, hs, rfl⟩ := Option.map_eq_some_iff.1 hc
          exact fin (s := Builtin.copy_ #[t, u] ty #[ρ p, ρ q]) (fun cs => rfl) (copy_rs W ht hs hi (hρ _ (by simp [hpq]) _ hp) (hρ _ (by simp [hpq]) _ hq))
        · simp at hc
      · -- min
        rename_i x y
        obtain ⟨p, q, hpq, hp, hq⟩ := ofOpds_two hargs
        rw [arr hpq] at fin
        have hP := hρ _ (by simp [hpq]) _ hp
        have hQ := hρ _ (by simp [hpq]) _ hq
        simp only [Option.some.injEq] at hc
        subst hc
        simp only [iop] at hi
        split at hi <;> simp only [Option.some.injEq, Ans.val.injEq, reduceCtorEq] at hi
        rename_i k a k' b h1 h2
        rw [h1] at hP
        rw [h2] at hQ
        obtain ⟨rfl, rfl⟩ := hi
        exact fin (s := Builtin.min_ ats ty #[ρ p, ρ q]) (fun cs => rfl) (Pl.rs W ⟨_, by rw [show ρ p = _ from hP, show ρ q = _ from hQ]; simp [Builtin.min_, Builtin.min2], rfl⟩)
      · -- max
        rename_i x y
        obtain ⟨p, q, hpq, hp, hq⟩ := ofOpds_two hargs
        rw [arr hpq] at fin
        have hP := hρ _ (by simp [hpq]) _ hp
        have hQ := hρ _ (by simp [hpq]) _ hq
        simp only [Option.some.injEq] at hc
        subst hc
        simp only [iop] at hi
        split at hi <;> simp only [Option.some.injEq, Ans.val.injEq, reduceCtorEq] at hi
        rename_i k a k' b h1 h2
        rw [h1] at hP
        rw [h2] at hQ
        obtain ⟨rfl, rfl⟩ := hi
        exact fin (s := Builtin.max_ ats ty #[ρ p, ρ q]) (fun cs => rfl) (Pl.rs W ⟨_, by rw [show ρ p = _ from hP, show ρ q = _ from hQ]; simp [Builtin.max_, Builtin.max2], rfl⟩)
      · simp at hc

theorem mem_parts {t : TypeId} {ps : Array (Nat × Operand)} {p : Nat × Operand} (h : p ∈ ps.toList) : p.2 ∈ (Op.build t ps).operands := by
  simp only [Op.operands]
  exact List.mem_toArray.2 (List.mem_map.2 ⟨p, h, rfl⟩)

theorem mem_slice {t : TypeId} {x : Operand} {lo hi mx : Option Operand} {y : Operand} (h : y ∈ (x :: (lo.toList ++ hi.toList ++ mx.toList))) : y ∈ (Op.slice t x lo hi mx).operands := by
  simp only [Op.operands]
  cases lo <;> cases hi <;> cases mx <;> simpa using h

theorem iop_sound {op : Op} {ty : TypeId} {X : IOp} (hc : compOp P op ty = some X) {ts : List AV} (hρ : ∀ x ∈ op.operands, ∀ X, ofOpd P x = some X → VRel μ (ev ts X) (ρ x)) (W : WRel μ w0 ng h w) {v : AV} {h' : H} (hi : iop X (ev ts) h = some (.val v h')) (dst : Option Tmp) (pos : String) (after : Array Edge)
    (guard : Option (Nat × Bool)) : Stp P μ w0 ng h w (execOp ρ ⟨dst, op, ty, pos, after, guard⟩) v h' := by
  cases op with
  | move x =>
    simp only [compOp, Option.bind_eq_some_iff, Option.some.injEq] at hc
    obtain ⟨x', hx, rfl⟩ := hc
    simp only [iop, Option.some.injEq, Ans.val.injEq] at hi
    obtain ⟨rfl, rfl⟩ := hi
    exact Stp.val W (hρ _ (by simp [Op.operands]) _ hx)
  | assign x =>
    simp only [compOp, Option.bind_eq_some_iff, Option.some.injEq] at hc
    obtain ⟨x', hx, rfl⟩ := hc
    simp only [iop, Option.some.injEq, Ans.val.injEq] at hi
    obtain ⟨rfl, rfl⟩ := hi
    exact Stp.val W (hρ _ (by simp [Op.operands]) _ hx)
  | pick c a b =>
    simp only [compOp, Option.bind_eq_some_iff, Option.some.injEq] at hc
    obtain ⟨c', hc', a', ha, b', hb, rfl⟩ := hc
    have hC := hρ _ (by simp [Op.operands]) _ hc'
    simp only [iop] at hi
    split at hi
    · rename_i he
      rw [he] at hC
      simp only [Option.some.injEq, Ans.val.injEq] at hi
      obtain ⟨rfl, rfl⟩ := hi
      exact ⟨_, ρ a, w, μ, by simp [execOp, show ρ c = .bool true from hC, asBool], .inl rfl, hρ _ (by simp [Op.operands]) _ ha, W, Adv.refl _ _ _⟩
    · rename_i he
      rw [he] at hC
      simp only [Option.some.injEq, Ans.val.injEq] at hi
      obtain ⟨rfl, rfl⟩ := hi
      exact ⟨_, ρ b, w, μ, by simp [execOp, show ρ c = .bool false from hC, asBool], .inl rfl, hρ _ (by simp [Op.operands]) _ hb, W, Adv.refl _ _ _⟩
    · simp at hi
  | alloc e =>
    simp only [compOp, Option.map_eq_some_iff] at hc
    obtain ⟨z, hz, rfl⟩ := hc
    simp only [iop] at hi
    split at hi
    · simp only [Option.some.injEq, Ans.val.injEq] at hi
      obtain ⟨rfl, rfl⟩ := hi
      exact (alloc_rs W hz).stp
    · simp at hi
  | box e x =>
    simp only [compOp, Option.bind_eq_some_iff, Option.some.injEq] at hc
    obtain ⟨x', hx, rfl⟩ := hc
    simp only [iop] at hi
    split at hi
    · simp only [Option.some.injEq, Ans.val.injEq] at hi
      obtain ⟨rfl, rfl⟩ := hi
      exact (box_rs W e (hρ _ (by simp [Op.operands]) _ hx)).stp
    · simp at hi
  | build t ps =>
    simp only [compOp] at hc
    split at hc
    · rename_i fs z ht hz
      split at hc
      · rename_i hall
        obtain ⟨aps, hp, rfl⟩ := Option.map_eq_some_iff.1 hc
        obtain ⟨cs, h1, h2⟩ := Option.map_eq_some_iff.1 hi
        simp only [Ans.val.injEq] at h2
        obtain ⟨rfl, rfl⟩ := h2
        exact (build_rs ht hz hall hp (fun p hp => hρ _ (mem_parts hp)) h1).stp W
      · simp at hc
    · rename_i len e z ht hz
      split at hc
      · rename_i s hs
        obtain ⟨aps, hp, rfl⟩ := Option.map_eq_some_iff.1 hc
        obtain ⟨cs, h1, h2⟩ := Option.map_eq_some_iff.1 hi
        simp only [Ans.val.injEq] at h2
        obtain ⟨rfl, rfl⟩ := h2
        exact (buildA_rs ht hz hs hp (fun p hp => hρ _ (mem_parts hp)) h1).stp W
      · simp at hc
    · simp at hc
  | buildSlice t n ps =>
    simp only [compOp] at hc
    split at hc
    · rename_i e ht
      split at hc
      · rename_i s z hs hz
        split at hc
        · rename_i hcond
          simp only [Bool.and_eq_true, decide_eq_true_eq, beq_iff_eq] at hcond
          obtain ⟨aps, hp, rfl⟩ := Option.map_eq_some_iff.1 hc
          simp only [iop] at hi
          split at hi
          · rename_i cs hf
            split at hi
            · simp only [Option.some.injEq, Ans.val.injEq] at hi
              obtain ⟨rfl, rfl⟩ := hi
              exact (bsl_rs W ht hs hz hcond.1 hcond.2 hp (fun p hp => hρ _ (mem_parts (t := 0) hp)) hf).stp
            · simp at hi
          · simp at hi
        · simp at hc
      · simp at hc
    · simp at hc
  | load t a =>
    simp only [compOp, Option.bind_eq_some_iff, Option.map_eq_some_iff] at hc
    obtain ⟨a', ha, g, hg, rfl⟩ := hc
    have hA := hρ _ (by simp [Op.operands]) _ ha
    simp only [iop] at hi
    split at hi
    · rename_i ad he
      rw [he] at hA
      obtain ⟨v', h1, h2⟩ := Option.map_eq_some_iff.1 hi
      simp only [Ans.val.injEq] at h2
      obtain ⟨rfl, rfl⟩ := h2
      exact (load_rs W hg h1 hA).stp W
    · simp at hi
  | store t a x =>
    simp only [compOp, Option.bind_eq_some_iff, Option.map_eq_some_iff] at hc
    obtain ⟨a', ha, x', hx, n, hn, rfl⟩ := hc
    have hA := hρ _ (by simp [Op.operands]) _ ha
    have hX := hρ _ (by simp [Op.operands]) _ hx
    simp only [iop] at hi
    split at hi
    · rename_i ad he
      rw [he] at hA
      split at hi
      · rename_i hl
        obtain ⟨h1, h2, h3⟩ := Option.map_eq_some_iff.1 hi
        simp only [Ans.val.injEq] at h3
        obtain ⟨rfl, rfl⟩ := h3
        obtain ⟨w', r1, r2, r3⟩ := store_rs W hn (by simpa using hl) h2 hA hX
        exact ⟨.skip, undef, w', μ, by simp [execOp, r1], .inr ⟨rfl, rfl⟩, ⟨_, rfl, rfl⟩, r2, r3⟩
      · simp at hi
    · simp at hi
  | nilCheck x =>
    simp only [compOp, Option.bind_eq_some_iff, Option.some.injEq] at hc
    obtain ⟨x', hx, rfl⟩ := hc
    have hX := hρ _ (by simp [Op.operands]) _ hx
    refine ⟨.value (ρ x), ρ x, w, μ, ?_, .inl rfl, ?_⟩
    · simp only [iop] at hi
      cases he : ev ts x' <;> rw [he] at hX hi <;> (try simp only [reduceCtorEq] at hi)
      · simp only [execOp, show ρ x = _ from hX]; rfl
      · simp only [execOp, show ρ x = _ from hX]; rfl
      · simp only [execOp, show ρ x = _ from hX]; rfl
      · obtain ⟨rb, _, h2⟩ := hX; simp only [execOp, h2]; rfl
      · simp only [execOp, show ρ x = _ from hX]; rfl
      · obtain ⟨_, _, h2⟩ := sl_of hX; simp only [execOp, h2]; rfl
      · simp only [execOp, show ρ x = _ from hX]; rfl
      · obtain ⟨rb, _, h2⟩ := hX; simp only [execOp, h2]; rfl
      · rename_i f a b
        obtain ⟨p, q, h2, _⟩ := hX
        cases f <;> first | (simp only [reduceCtorEq] at hi; done) | (simp only [execOp, h2]; rfl)
      · obtain ⟨y, h2, _⟩ := hX; simp only [execOp, h2]; rfl
      · obtain ⟨y, h2, _⟩ := hX; simp only [execOp, h2]; rfl
      · obtain ⟨y, h2, _⟩ := hX; simp only [execOp, h2]; rfl
    · have : v = ev ts x' ∧ h' = h := by
        simp only [iop] at hi
        split at hi <;> simp only [Option.some.injEq, Ans.val.injEq, reduceCtorEq] at hi
        exact ⟨hi.1.symm, hi.2.symm⟩
      obtain ⟨rfl, rfl⟩ := this
      exact ⟨hX, W, Adv.refl _ _ _⟩
  | binOp op t x y yt =>
    simp only [compOp] at hc
    have bin : ∀ {X : IOp}, ((ofOpd P x).bind fun x => (ofOpd P y).bind fun y => some (IOp.bin op x y)) = some X → iop X (ev ts) h = some (.val v h') → Stp P μ w0 ng h w (execOp ρ ⟨dst, .binOp op t x y yt, ty, pos, after, guard⟩) v h' := by
      intro X hc hi
      simp only [Option.bind_eq_some_iff, Option.some.injEq] at hc
      obtain ⟨x', hx, y', hy, rfl⟩ := hc
      obtain ⟨r, h1, h2⟩ := Option.map_eq_some_iff.1 hi
      simp only [Ans.val.injEq] at h2
      obtain ⟨rfl, rfl⟩ := h2
      exact (binop_rel h1 (hρ _ (by simp [Op.operands]) _ hx) (hρ _ (by simp [Op.operands]) _ hy) t x y).stp W
    split at hc
    · exact bin hc hi
    · exact bin hc hi
    · rename_i hni hns
      split at hc
      · simp at hc
      · rename_i hagg
        have hni' : ∀ k, P.underlying t ≠ some (.int k) := fun k e => hni k e
        have hns' : P.underlying t ≠ some .string := fun e => hns e
        have hfl : ∀ {d : EqD}, eqdOf P 20 t = some d → ¬ d.flat = true → P.eqGuardType P.depth t = false := fun hd hn => by
          by_cases ha : aggDesc (P.underlying t) = true
          · simpa [ha] using hagg
          · exact absurd (flat_of hd (fun fs e => ha (by rw [e]; rfl)) (fun k q e => ha (by rw [e]; rfl))) hn
        cases op <;> simp only [Option.bind_eq_some_iff, Option.map_eq_some_iff, reduceCtorEq] at hc
        · obtain ⟨x', hx, y', hy, d, hd, rfl⟩ := hc
          by_cases hf : d.flat = true
          · obtain ⟨rfl, hp⟩ := eq_step (P := P) (w := w) (op := .eql) (neg := false) rfl (fun z hz => hρ z (by simpa [Op.operands] using hz)) hx hy hd hf hni' hns' hi
            exact hp.stp W
          · obtain ⟨rfl, hp⟩ := eq_agg_step (P := P) (w := w) (op := .eql) (neg := false) rfl (fun z hz => hρ z (by simpa [Op.operands] using hz)) hx hy hd hf (hfl hd hf) hi
            exact hp.stp W
        · obtain ⟨x', hx, y', hy, d, hd, rfl⟩ := hc
          by_cases hf : d.flat = true
          · obtain ⟨rfl, hp⟩ := eq_step (P := P) (w := w) (op := .neq) (neg := true) rfl (fun z hz => hρ z (by simpa [Op.operands] using hz)) hx hy hd hf hni' hns' hi
            exact hp.stp W
          · obtain ⟨rfl, hp⟩ := eq_agg_step (P := P) (w := w) (op := .neq) (neg := true) rfl (fun z hz => hρ z (by simpa [Op.operands] using hz)) hx hy hd hf (hfl hd hf) hi
            exact hp.stp W
  | unOp op t x =>
    simp only [compOp, Option.bind_eq_some_iff, Option.some.injEq] at hc
    obtain ⟨x', hx, rfl⟩ := hc
    obtain ⟨r, h1, h2⟩ := Option.map_eq_some_iff.1 hi
    simp only [Ans.val.injEq] at h2
    obtain ⟨rfl, rfl⟩ := h2
    exact (unop_rel h1 (hρ _ (by simp [Op.operands]) _ hx)).stp W
  | convert s d x =>
    simp only [compOp] at hc
    split at hc
    · rename_i ks kd hs hd
      simp only [Option.bind_eq_some_iff, Option.some.injEq] at hc
      obtain ⟨x', hx, rfl⟩ := hc
      obtain ⟨n, h1, h2⟩ := Option.map_eq_some_iff.1 hi
      simp only [Ans.val.injEq] at h2
      obtain ⟨rfl, rfl⟩ := h2
      obtain ⟨k, hk⟩ := asI_rel h1 (hρ _ (by simp [Op.operands]) _ hx)
      exact Pl.stp W ⟨.int kd (kd.wrap n), by rw [hk]; simp [convert, run_underlying hs, run_underlying hd, Conv.intToInt], rfl⟩
    · rename_i ks hs hd
      simp only [Option.bind_eq_some_iff, Option.some.injEq] at hc
      obtain ⟨x', hx, rfl⟩ := hc
      obtain ⟨n, h1, h2⟩ := Option.map_eq_some_iff.1 hi
      simp only [Ans.val.injEq] at h2
      obtain ⟨rfl, rfl⟩ := h2
      obtain ⟨k, hk⟩ := asI_rel h1 (hρ _ (by simp [Op.operands]) _ hx)
      refine Pl.stp W ⟨.string (Utf8.encode n), by rw [hk]; simp [convert, run_underlying hs, run_underlying hd, Conv.intToString], ?_⟩
      show _ = _
      rw [bytes_list]
    · rename_i hs hd
      simp only [Option.bind_eq_some_iff, Option.some.injEq] at hc
      obtain ⟨x', hx, rfl⟩ := hc
      have hX := hρ _ (by simp [Op.operands]) _ hx
      simp only [iop] at hi
      split at hi
      · rename_i q he
        rw [he] at hX
        simp only [Option.some.injEq, Ans.val.injEq] at hi
        obtain ⟨rfl, rfl⟩ := hi
        exact Pl.stp W ⟨_, by rw [show ρ x = _ from hX]; simp [convert, run_underlying hs, run_underlying hd], rfl⟩
      · simp at hi
    · rename_i e hs hd
      split at hc
      · rename_i he8
        simp only [Option.bind_eq_some_iff, Option.some.injEq] at hc
        obtain ⟨x', hx, rfl⟩ := hc
        have hX := hρ _ (by simp [Op.operands]) _ hx
        simp only [iop] at hi
        split at hi
        · rename_i q he
          rw [he] at hX
          split at hi
          · rename_i hl
            simp only [Option.some.injEq, Ans.val.injEq] at hi
            obtain ⟨rfl, rfl⟩ := hi
            exact (cvSB_rs W hs hd he8 hl hX).stp
          · simp at hi
        · simp at hi
      · simp at hc
    · rename_i e hs hd
      split at hc
      · rename_i he8
        simp only [Option.bind_eq_some_iff, Option.some.injEq] at hc
        obtain ⟨x', hx, rfl⟩ := hc
        have hX := hρ _ (by simp [Op.operands]) _ hx
        simp only [iop] at hi
        split at hi
        · rename_i he
          rw [he] at hX
          simp only [Option.some.injEq, Ans.val.injEq] at hi
          obtain ⟨rfl, rfl⟩ := hi
          exact (cvBS_rs W hs he8 hd (a := .nils) (s := []) rfl hX).stp W
        · rename_i a n c he
          rw [he] at hX
          split at hi
          · rename_i cs hcs
            obtain ⟨q, h1, h2⟩ := Option.map_eq_some_iff.1 hi
            simp only [Ans.val.injEq] at h2
            obtain ⟨rfl, rfl⟩ := h2
            exact (cvBS_rs W hs he8 hd (a := .sl a n c) (s := q) (by simp [hcs, h1]) hX).stp W
          · simp at hi
        · simp at hi
      · simp at hc
    · rename_i es e hs hd
      split at hc
      · rename_i he8
        split at hc
        · rename_i hsd
          have hsd : s = d := by simpa using hsd
          subst hsd
          simp only [Option.bind_eq_some_iff, Option.some.injEq] at hc
          obtain ⟨x', hx, rfl⟩ := hc
          have hX := hρ _ (by simp [Op.operands]) _ hx
          simp only [iop] at hi
          split at hi
          · rename_i a n c he
            rw [he] at hX
            split at hi
            · rename_i g eb cs fz ro hg
              split at hi
              · rename_i hcond
                simp only [Bool.and_eq_true, Bool.not_eq_true', beq_iff_eq] at hcond
                obtain ⟨⟨⟨hgen, rfl⟩, rfl⟩, hcx⟩ := hcond
                simp only [Option.some.injEq, Ans.val.injEq] at hi
                obtain ⟨rfl, rfl⟩ := hi
                exact (cvBB_rs W hd he8 hg hgen (by rintro rfl; simp [capPos] at hcx) hX).stp
              · simp at hi
            · simp at hi
          · simp at hi
        · simp at hc
      · simp at hc
    · simp at hc
  | sliceToArrayPointer d x =>
    simp only [compOp] at hc
    split at hc
    · rename_i n e ht
      simp only [Option.bind_eq_some_iff, Option.some.injEq] at hc
      obtain ⟨x', hx, rfl⟩ := hc
      have hX := hρ _ (by simp [Op.operands]) _ hx
      simp only [iop] at hi
      split at hi
      · rename_i he
        rw [he] at hX
        split at hi
        · rename_i h0
          have h0 : n = 0 := by simpa using h0
          subst h0
          simp only [Option.some.injEq, Ans.val.injEq] at hi
          obtain ⟨rfl, rfl⟩ := hi
          exact (sapN_rs ht hX).stp W
        · simp at hi
      · rename_i a m c he
        rw [he] at hX
        split at hi
        · rename_i h0
          simp only [Bool.and_eq_true, decide_eq_true_eq] at h0
          simp only [Option.some.injEq, Ans.val.injEq] at hi
          obtain ⟨rfl, rfl⟩ := hi
          exact (sap_rs ht h0.1 h0.2 hX).stp W
        · simp at hi
      · simp at hi
    · simp at hc
  | makeInterface t x =>
    simp only [compOp] at hc
    split at hc
    · simp at hc
    · rename_i d hne ht
      simp only [Option.bind_eq_some_iff, Option.some.injEq] at hc
      obtain ⟨x', hx, rfl⟩ := hc
      simp only [iop, Option.some.injEq, Ans.val.injEq] at hi
      obtain ⟨rfl, rfl⟩ := hi
      refine Pl.stp W ⟨.iface t (ρ x), ?_, _, rfl, hρ _ (by simp [Op.operands]) _ hx⟩
      simp only [Instr.makeInterface, Sem.run_bind, run_underlying ht, Result.andThen_ok]
      cases d <;> first | rfl | exact absurd ht (hne _)
    · simp at hc
  | makeFunc f a c =>
    simp only [compOp] at hc
    split at hc
    · simp at hc
    · simp only [Option.bind_eq_some_iff, Option.map_eq_some_iff] at hc
      obtain ⟨a', ha, c', hc', rfl⟩ := hc
      simp only [iop, Option.some.injEq, Ans.val.injEq] at hi
      obtain ⟨rfl, rfl⟩ := hi
      refine Pl.stp W ⟨.func f (a.map ρ) (c.map ρ), by simp [Instr.makeFunc], _, _, rfl, ?_, ?_⟩
      · simpa using ofOpds_rel a.toList _ (fun y hy => hρ y (by simp at hy; simp [Op.operands, hy])) ha
      · simpa using ofOpds_rel c.toList _ (fun y hy => hρ y (by simp at hy; simp [Op.operands, hy])) hc'
  | makeMap t r =>
    cases r with
    | some r => simp [compOp] at hc
    | none =>
      simp only [compOp, Option.some.injEq] at hc
      subst hc
      simp only [iop, Option.some.injEq, Ans.val.injEq] at hi
      obtain ⟨rfl, rfl⟩ := hi
      have hW := W.new w rfl rfl rfl rfl (.map [] 0) (.map #[] 0) 0 rfl rfl ⟨#[], rfl, rfl⟩
      exact Rs.stp ⟨.map (some w.heap.size), _, _, by simp [Instr.makeMap], ⟨_, Mu.put_at _ _ _ _, rfl⟩, hW⟩
  | makeSlice t l c =>
    simp only [compOp] at hc
    split at hc
    · rename_i e ht
      split at hc
      · rename_i i z hinfo hz
        split at hc
        · rename_i hcond
          simp only [Bool.and_eq_true, decide_eq_true_eq, beq_iff_eq] at hcond
          simp only [Option.bind_eq_some_iff, Option.some.injEq] at hc
          obtain ⟨l', hl, c', hc', rfl⟩ := hc
          simp only [iop] at hi
          split at hi
          · rename_i ln cn h1 h2
            split at hi
            · rename_i hb
              simp only [Bool.and_eq_true, decide_eq_true_eq] at hb
              obtain ⟨⟨⟨hb1, hb2⟩, hb3⟩, hb4⟩ := hb
              simp only [Option.some.injEq, Ans.val.injEq] at hi
              obtain ⟨rfl, rfl⟩ := hi
              exact (mkS_rs W ht hinfo hz hcond.1 hcond.2 h1 h2 hb1 hb2 hb3 hb4 (hρ _ (by simp [Op.operands]) _ hl) (hρ _ (by simp [Op.operands]) _ hc')).stp
            · simp at hi
          · simp at hi
        · simp at hc
      · simp at hc
    · simp at hc
  | slice t x lo hi' mx =>
    simp only [compOp, Option.bind_eq_some_iff] at hc
    obtain ⟨x', hx, lo', hlo, hi2, hhi, mx', hmx, hc⟩ := hc
    split at hc
    · rename_i ht
      split at hc
      · rename_i hnone
        simp only [Option.some.injEq] at hc
        subst hc
        cases mx with
        | some m => simp only [ofOpt, Option.map_eq_some_iff] at hmx; obtain ⟨_, _, rfl⟩ := hmx; simp at hnone
        | none =>
          have hX := hρ _ (by simp [Op.operands]) _ hx
          simp only [iop] at hi
          split at hi
          · rename_i s he
            rw [he] at hX
            split at hi
            · rename_i l hh m hb
              simp only [Option.some.injEq, Ans.val.injEq] at hi
              obtain ⟨rfl, rfl⟩ := hi
              exact (slS_rs ht hb (ofOpt_rel (fun y hy => hρ y (mem_slice (by simp [hy]))) hlo) (ofOpt_rel (fun y hy => hρ y (mem_slice (by simp [hy]))) hhi) hX).stp W
            · simp at hi
          · simp at hi
      · simp at hc
    · rename_i e ht
      obtain ⟨s, hs, rfl⟩ := Option.map_eq_some_iff.1 hc
      obtain ⟨rfl, hp⟩ := sl_slice (P := P) (w := w) ht hs (fun y hy => hρ y (mem_slice hy)) hx hlo hhi hmx hi
      exact hp.stp W
    · rename_i n e ht
      obtain ⟨s, hs, rfl⟩ := Option.map_eq_some_iff.1 hc
      obtain ⟨rfl, hp⟩ := sl_array (P := P) (w := w) (arr := 0) (.inl ht) hs (fun y hy => hρ y (mem_slice hy)) hx hlo hhi hmx hi
      exact hp.stp W
    · rename_i arr ht
      split at hc
      · rename_i n e hu
        obtain ⟨s, hs, rfl⟩ := Option.map_eq_some_iff.1 hc
        obtain ⟨rfl, hp⟩ := sl_array (P := P) (w := w) (.inr ⟨ht, hu⟩) hs (fun y hy => hρ y (mem_slice hy)) hx hlo hhi hmx hi
        exact hp.stp W
      · simp at hc
    · simp at hc
  | fieldAddr t x i =>
    simp only [compOp] at hc
    split at hc
    · rename_i fs ht
      split at hc
      · rename_i f hf
        split at hc
        · rename_i k hk
          simp only [Option.bind_eq_some_iff, Option.some.injEq] at hc
          obtain ⟨x', hx, rfl⟩ := hc
          have hX := hρ _ (by simp [Op.operands]) _ hx
          simp only [iop] at hi
          split at hi
          · rename_i a he
            rw [he] at hX
            simp only [Option.some.injEq, Ans.val.injEq] at hi
            obtain ⟨rfl, rfl⟩ := hi
            exact (fa_rs ht hf hk hX).stp W
          · simp at hi
        · simp at hc
      · simp at hc
    · simp at hc
  | field t x i =>
    simp only [compOp] at hc
    split at hc
    · rename_i fs ht
      split at hc
      · rename_i f hf
        simp only [Option.bind_eq_some_iff, Option.some.injEq] at hc
        obtain ⟨g, hg, x', hx, rfl⟩ := hc
        have hX := hρ _ (by simp [Op.operands]) _ hx
        simp only [iop] at hi
        split at hi
        · rename_i cs he
          rw [he] at hX
          obtain ⟨r, h1, h2⟩ := Option.map_eq_some_iff.1 hi
          simp only [Ans.val.injEq] at h2
          obtain ⟨rfl, rfl⟩ := h2
          exact (fd_rs ht hf hg h1 hX).stp W
        · simp at hi
      · simp at hc
    · simp at hc
  | indexAddr t x i =>
    simp only [compOp] at hc
    split at hc
    · rename_i e ht
      simp only [Option.bind_eq_some_iff, Option.some.injEq] at hc
      obtain ⟨s, hs, x', hx, i', hi', rfl⟩ := hc
      have hX := hρ _ (by simp [Op.operands]) _ hx
      simp only [iop] at hi
      split at hi
      · rename_i a n c k he hk
        rw [he] at hX
        split at hi
        · rename_i hb
          simp only [Bool.and_eq_true, decide_eq_true_eq] at hb
          simp only [Option.some.injEq, Ans.val.injEq] at hi
          obtain ⟨rfl, rfl⟩ := hi
          exact (ia_rs ht hs hk hb.1 hb.2 hX (hρ _ (by simp [Op.operands]) _ hi')).stp W
        · simp at hi
      · simp at hi
    · rename_i n e ht
      simp only [Option.bind_eq_some_iff, Option.some.injEq] at hc
      obtain ⟨s, hs, x', hx, i', hi', rfl⟩ := hc
      have hX := hρ _ (by simp [Op.operands]) _ hx
      simp only [iop] at hi
      split at hi
      · rename_i a k he hk
        rw [he] at hX
        split at hi
        · rename_i hb
          simp only [Bool.and_eq_true, decide_eq_true_eq] at hb
          simp only [Option.some.injEq, Ans.val.injEq] at hi
          obtain ⟨rfl, rfl⟩ := hi
          exact (iaA_rs ht hs hk hb.1 hb.2 hX (hρ _ (by simp [Op.operands]) _ hi')).stp W
        · simp at hi
      · simp at hi
    · simp at hc
  | index t x i =>
    simp only [compOp] at hc
    split at hc
    · rename_i ht
      simp only [Option.bind_eq_some_iff, Option.some.injEq] at hc
      obtain ⟨x', hx, i', hi', rfl⟩ := hc
      have hX := hρ _ (by simp [Op.operands]) _ hx
      simp only [iop] at hi
      split at hi
      · rename_i s k he hk
        rw [he] at hX
        split at hi
        · rename_i h0
          obtain ⟨b, h1, h2⟩ := Option.map_eq_some_iff.1 hi
          simp only [Ans.val.injEq] at h2
          obtain ⟨rfl, rfl⟩ := h2
          exact (ixS_rs ht hk h0 h1 hX (hρ _ (by simp [Op.operands]) _ hi')).stp W
        · simp at hi
      · simp at hi
    · rename_i n e ht
      simp only [Option.bind_eq_some_iff, Option.some.injEq] at hc
      obtain ⟨s, hs, g, hg, x', hx, i', hi', rfl⟩ := hc
      have hX := hρ _ (by simp [Op.operands]) _ hx
      simp only [iop] at hi
      split at hi
      · rename_i cs k he hk
        rw [he] at hX
        split at hi
        · rename_i hb
          simp only [Bool.and_eq_true, decide_eq_true_eq] at hb
          obtain ⟨r, h1, h2⟩ := Option.map_eq_some_iff.1 hi
          simp only [Ans.val.injEq] at h2
          obtain ⟨rfl, rfl⟩ := h2
          exact (ixA_rs ht hs hg hk hb.1 hb.2 h1 hX (hρ _ (by simp [Op.operands]) _ hi')).stp W
        · simp at hi
      · simp at hi
    · simp at hc
  | extract x i =>
    simp only [compOp, Option.bind_eq_some_iff, Option.some.injEq] at hc
    obtain ⟨x', hx, rfl⟩ := hc
    have hX := hρ _ (by simp [Op.operands]) _ hx
    simp only [iop] at hi
    split at hi
    · rename_i vs he
      rw [he] at hX
      obtain ⟨r, h1, h2⟩ := Option.map_eq_some_iff.1 hi
      simp only [Ans.val.injEq] at h2
      obtain ⟨rfl, rfl⟩ := h2
      exact (ext_rs h1 hX).stp W
    · simp at hi
  | range t x =>
    simp only [compOp] at hc
    split at hc
    · rename_i ht
      simp only [Option.bind_eq_some_iff, Option.some.injEq] at hc
      obtain ⟨x', hx, rfl⟩ := hc
      have hX := hρ _ (by simp [Op.operands]) _ hx
      simp only [iop] at hi
      split at hi
      · rename_i s he
        rw [he] at hX
        simp only [Option.some.injEq, Ans.val.injEq] at hi
        obtain ⟨rfl, rfl⟩ := hi
        exact (iter_rs W ht hX).stp
      · simp at hi
    · simp at hc
  | next x is =>
    cases is with
    | false => simp [compOp] at hc
    | true =>
      simp only [compOp, Option.bind_eq_some_iff, Option.some.injEq] at hc
      obtain ⟨x', hx, rfl⟩ := hc
      have hX := hρ _ (by simp [Op.operands]) _ hx
      simp only [iop] at hi
      split at hi
      · rename_i b he
        rw [he] at hX
        split at hi
        · rename_i s pos' hg
          refine Rs.stp (next_rs W hg hX ty ?_)
          split at hi
          · rename_i hlt
            simp only [Option.some.injEq, Ans.val.injEq] at hi
            rw [if_pos hlt, ← hi.1, ← hi.2]
          · rename_i hlt
            simp only [Option.some.injEq, Ans.val.injEq] at hi
            rw [if_neg hlt, ← hi.1, ← hi.2]
        · simp at hi
      · simp at hi
  | lookup t x i ok => simp [compOp] at hc
  | mapUpdate t m k v => simp [compOp] at hc
  | insert t m k v => simp [compOp] at hc
  | call c => exact call_step hc (fun x hx => hρ x (by simp [Op.operands, Call.operands]; simp at hx; exact .inr hx)) W hi dst pos after guard
  | panic x => simp only [compOp, Option.some.injEq] at hc; subst hc; simp [iop] at hi
  | _ => simp [compOp] at hc

end
end Go.Det

/- Code of the deterministic machine against the real one: regions, branches, loops, jumps, calls. -/
set_option linter.unusedVariables false
set_option linter.unusedSimpArgs false
set_option linter.unusedSectionVars false
namespace Go.Det
open Go.RowKit

section
variable {P : Program} {w0 : World}

/-- A state of the machine, and the real one. -/
structure SRel (P : Program) (μ : Mu) (w0 : World) (s : St) (a : Act) (w : World) : Prop where
  ts : VRels μ s.1 a.tmps.toList
  df : a.defers = []
  W : WRel μ w0 P.globals.size s.2 w

theorem ev_rel {μ : Mu} {ng : Nat} {h : H} {w : World} (W : WRel μ w0 ng h w) (hng : ng = P.globals.size) {ts : List AV} {a : Act} (ht : VRels μ ts a.tmps.toList) : ∀ x X, ofOpd P x = some X → VRel μ (ev ts X) (a.eval x) := by
  intro x X hx
  cases x with
  | tmp t =>
    simp only [ofOpd, Option.some.injEq] at hx
    subst hx
    simp only [ev, Act.eval]
    cases e : getL ts t with
    | none =>
      have := ht.get_none e
      have h2 : a.tmps[t]? = none := by simpa using this
      simp only [Option.getD_none, Array.getD_eq_getD_getElem?, h2]
      exact ⟨_, rfl, rfl⟩
    | some v =>
      obtain ⟨v', h1, h2⟩ := ht.get e
      have h3 : a.tmps[t]? = some v' := by simpa using h1
      simpa only [Option.getD_some, Array.getD_eq_getD_getElem?, h3] using h2
  | const v =>
    simp only [ofOpd, Option.map_eq_some_iff] at hx
    obtain ⟨z, h1, rfl⟩ := hx
    exact (ofVal_rel μ big).1 _ _ h1
  | global g =>
    simp only [ofOpd] at hx
    split at hx
    · rename_i hg
      simp only [Option.some.injEq] at hx
      subst hx
      obtain ⟨n, hn⟩ := W.glob g (by omega)
      exact ⟨_, hn, rfl⟩
    · simp at hx
  | func f =>
    simp only [ofOpd, Option.some.injEq] at hx
    subst hx
    exact ⟨#[], #[], rfl, rfl, rfl⟩

/-- What a call of the machine says of a call of the real one. -/
def CallOk (P : Program) (w0 : World) (cf : CallF) : Prop := ∀ (f : FuncId) (args : List AV) (h : H) (v : AV) (h' : H), cf f args h = some (v, h') → ∀ (μ : Mu) (w : World) (args' : Array Value), VRels μ args args'.toList → WRel μ w0 P.globals.size h w →
  (∃ fn, P.funcs[f]? = some fn ∧ fn.body.isSome = true ∧ (fn.name == "runtime.NumGoroutine") = false) ∧
  Calls P f args' w fun e w' => ∃ v' μ', e = .returned v' ∧ VRel μ' v v' ∧ WRel μ' w0 P.globals.size h' w' ∧ Adv μ h w μ' h' w'

theorem append_val {h : H} {e sz bytes : Nat} {x y : AV} {f : FuncId} {args : List AV} : append h e sz bytes x y ≠ some (.call f args) := by
  intro hi
  unfold append at hi
  repeat' split at hi
  all_goals simp at hi

theorem iop_is_call {X : IOp} {ρA : IX → AV} {h : H} {f : FuncId} {args : List AV} (hi : iop X ρA h = some (.call f args)) :
    (∃ as1, X = .call f as1 ∧ args = as1.map ρA) ∨ ∃ g as1 first cap, X = .callv g as1 ∧ ρA g = .fn (.func f) first cap ∧ args = first ++ as1.map ρA ++ cap := by
  cases X with
  | call g as1 => simp only [iop, Option.some.injEq, Ans.call.injEq] at hi; obtain ⟨rfl, rfl⟩ := hi; exact .inl ⟨as1, rfl, rfl⟩
  | callv g as1 =>
    simp only [iop] at hi
    split at hi
    · rename_i f' first cap he
      simp only [Option.some.injEq, Ans.call.injEq] at hi
      obtain ⟨rfl, rfl⟩ := hi
      exact .inr ⟨g, as1, first, cap, rfl, he, rfl⟩
    · simp at hi
  | app e sz bytes st x y =>
    simp only [iop] at hi
    split at hi
    · exact absurd hi append_val
    · simp at hi
  | _ =>
    simp only [iop] at hi
    repeat' split at hi
    all_goals simp at hi

theorem comp_call {op : Op} {ty : TypeId} {X : IOp} (hc : compOp P op ty = some X) (hX : (∃ f as1, X = .call f as1) ∨ ∃ g as1, X = .callv g as1) : ∃ c, op = .call c := by
  cases op with
  | call c => exact ⟨c, rfl⟩
  | _ =>
    exfalso
    rcases hX with ⟨f, as1, rfl⟩ | ⟨g, as1, rfl⟩
    all_goals
      simp only [compOp] at hc
      repeat' split at hc
      all_goals first | (simp [Option.bind_eq_some_iff] at hc; done) | (rename_i hq; cases hq; done)

theorem iop_call {op : Op} {ty : TypeId} {X : IOp} (hc : compOp P op ty = some X) {ts : List AV} {μ : Mu} {ρ : Operand → Value} (hρ : ∀ x ∈ op.operands, ∀ X, ofOpd P x = some X → VRel μ (ev ts X) (ρ x)) {h : H} {f : FuncId} {args : List AV} (hi : iop X (ev ts) h = some (.call f args))
    (dst : Option Tmp) (pos : String) (after : Array Edge) (guard : Option (Nat × Bool)) (w : World) : ∃ args' : Array Value, (execOp ρ ⟨dst, op, ty, pos, after, guard⟩).run P w = (callFunc f args').run P w ∧ VRels μ args args'.toList := by
  have hX := iop_is_call hi
  obtain ⟨c, rfl⟩ := comp_call hc (by rcases hX with ⟨as1, h, _⟩ | ⟨g, as1, _, _, h, _⟩; exact .inl ⟨_, _, h⟩; exact .inr ⟨_, _, h⟩)
  obtain ⟨callee, cargs, ats⟩ := c
  simp only [compOp, compCall] at hc
  split at hc
  · simp at hc
  · rename_i iargs hargs
    have hrel : VRels μ (iargs.map (ev ts)) (cargs.map ρ).toList := by
      have := ofOpds_rel (μ := μ) (ρA := ev ts) (ρ := ρ) cargs.toList iargs (fun y hy => hρ y (by simp at hy; simp [Op.operands, Call.operands, hy])) hargs
      simpa using this
    split at hc
    · rename_i g
      split at hc
      · split at hc
        · simp only [Option.some.injEq] at hc
          subst hc
          simp only [iop, Option.some.injEq, Ans.call.injEq] at hi
          obtain ⟨rfl, rfl⟩ := hi
          obtain ⟨p, q, h1, h2, h3⟩ : VRel μ (.fn (.func g) [] []) (ρ (.func g)) := hρ (.func g) (by simp [Op.operands, Call.operands]) _ rfl
          have hp : p = #[] := by cases p; cases h2; rfl
          have hq : q = #[] := by cases q; cases h3; rfl
          subst hp; subst hq
          exact ⟨cargs.map ρ, by simp [execOp, resolve, h1, Deferred.ofValue, invoke], hrel⟩
        · simp at hc
      · simp at hc
    · rename_i g _
      obtain ⟨X', hg, rfl⟩ := Option.map_eq_some_iff.1 hc
      simp only [iop] at hi
      split at hi
      · rename_i f' first cap he
        simp only [Option.some.injEq, Ans.call.injEq] at hi
        obtain ⟨rfl, rfl⟩ := hi
        have := hρ g (by simp [Op.operands, Call.operands]) _ hg
        rw [he] at this
        obtain ⟨p, q, h1, h2, h3⟩ := this
        exact ⟨p ++ cargs.map ρ ++ q, by simp [execOp, resolve, h1, Deferred.ofValue, invoke], by simpa using (h2.append hrel).append h3⟩
      · simp at hi
    · simp at hc
    · rename_i b
      exfalso
      rcases hX with ⟨as1, h, _⟩ | ⟨g, as1, _, _, h, _⟩
      all_goals
        subst h
        repeat' split at hc
        all_goals simp at hc

/-- One operation. -/
theorem oper_wp {cf : CallF} (hcf : CallOk P w0 cf) {o : Oper} {X : IOp} (hc : compOp P o.op o.type = some X) {ts : List AV} {h : H} {v : AV} {h' : H} (ho : oneOp cf X ts h = some (v, h')) {μ : Mu} {a : Act} {w : World} (hρ : ∀ x ∈ o.op.operands, ∀ X, ofOpd P x = some X → VRel μ (ev ts X) (a.eval x))
    (W : WRel μ w0 P.globals.size h w) {K : Act → World → Prop} {Q : Exit → Act → World → Prop} (hK : ∀ v' w' μ', VRel μ' v v' → WRel μ' w0 P.globals.size h' w' → Adv μ h w μ' h' w' → K (a.put o.dst v') w') : o.wp P a w K Q := by
  obtain ⟨dst, op, ty, pos, after, guard⟩ := o
  unfold oneOp at ho
  split at ho
  · rename_i v1 h1 hi
    simp only [Option.some.injEq, Prod.mk.injEq] at ho
    obtain ⟨rfl, rfl⟩ := ho
    obtain ⟨nx, v', w', μ', h2, h3, h4, h5, h6⟩ := iop_sound hc hρ W hi dst pos after guard
    unfold Oper.wp
    rw [h2]
    rcases h3 with rfl | ⟨rfl, rfl⟩
    · exact hK v' w' μ' h4 h5 h6
    · exact hK undef w' μ' h4 h5 h6
  · rename_i f args hi
    obtain ⟨args', h2, h3⟩ := iop_call hc hρ hi dst pos after guard w
    obtain ⟨⟨fn, h4, h5, h6⟩, h7⟩ := hcf f args h v h' ho μ w args' h3 W
    unfold Oper.wp
    have hr : (callFunc f args').run P w = .ok (.enter f args') w := by
      have : fn.body.isNone = false := by simpa using h5
      simp only [callFunc, Sem.run_bind, run_program, Result.andThen_ok, h4, h6, this, Bool.false_eq_true, if_false, Sem.run_pure]
    rw [h2, hr]
    simp only [Oper.upon_enter]
    refine h7.mono ?_
    rintro e w' ⟨v', μ', rfl, h8, h9, h10⟩
    exact hK v' w' μ' h8 h9 h10
  · simp at ho

theorem SRel.put {μ : Mu} {s : St} {a : Act} {w : World} (S : SRel P μ w0 s a w) {μ' : Mu} {h' : H} {w' : World} {v : AV} {v' : Value} (A : Adv μ s.2 w μ' h' w') (W : WRel μ' w0 P.globals.size h' w') (hv : VRel μ' v v') (d : Option Nat) :
    SRel P μ' w0 (put s.1 d v, h') (a.put d v') w' := by
  have ht := VRels.mono A.le _ _ S.ts
  cases d with
  | none => exact ⟨ht, S.df, W⟩
  | some d => exact ⟨by simpa [Det.put, Act.put, Array.toList_setIfInBounds] using ht.set d hv, S.df, W⟩

theorem wanted_rel {μ : Mu} {ts : List AV} {a : Act} (ht : VRels μ ts a.tmps.toList) {ops : Array Oper} {o : Oper} {O : IOper} (hc : compOper P ops o = some O) : Region.wanted o (yielded ops a.tmps) = wanted O.guard ts := by
  unfold compOper at hc
  split at hc
  · simp at hc
  · split at hc
    · rename_i hg
      simp only [Option.some.injEq] at hc
      subst hc
      simp [Region.wanted, hg, Det.wanted]
    · rename_i j wt hg
      split at hc
      · rename_i d hd
        simp only [Option.some.injEq] at hc
        subst hc
        simp only [Region.wanted, hg, Det.wanted, yielded, hd, Option.bind_some]
        cases e : getL ts d with
        | none =>
          have h2 : a.tmps[d]? = none := by simpa using ht.get_none e
          simp [h2]
        | some v =>
          obtain ⟨v', h1, h2⟩ := ht.get e
          have h3 : a.tmps[d]? = some v' := by simpa using h1
          simp only [h3]
          cases v <;> first
            | (cases h2; rfl)
            | (cases h2; simp; done)
            | (obtain ⟨_, _, rfl⟩ := h2; rfl)
            | (obtain ⟨_, _, rfl, _⟩ := h2; rfl)
            | (obtain ⟨_, rfl, _⟩ := h2; rfl)
            | (obtain ⟨_, _, rfl⟩ := sl_of h2; rfl)
      · simp at hc

theorem runOps_wp {cf : CallF} (hcf : CallOk P w0 cf) {ops : Array Oper} {Q : Exit → Act → World → Prop} : ∀ (l : List Oper) (L : List IOper), compOpers P ops l = some L → ∀ (s s' : St), runOps cf L s.1 s.2 = some s' → ∀ (μ : Mu) (a : Act) (w : World), SRel P μ w0 s a w →
    (∀ μ' a' w', SRel P μ' w0 s' a' w' → Adv μ s.2 w μ' s'.2 w' → Q .normal a' w') → wpList P ops Q l a w
  | [], L, hL, s, s', hr, μ, a, w, S, hQ => by
    simp only [compOpers, Option.some.injEq] at hL
    subst hL
    simp only [runOps, Option.some.injEq] at hr
    subst hr
    exact hQ μ a w S (Adv.refl _ _ _)
  | o :: l, L, hL, s, s', hr, μ, a, w, S, hQ => by
    simp only [compOpers] at hL
    split at hL
    · rename_i O R h1 h2
      simp only [Option.some.injEq] at hL
      subst hL
      simp only [runOps] at hr
      have hw := wanted_rel S.ts h1
      unfold wpList
      split at hr
      · rename_i hwant
        rw [if_pos (hw.trans hwant)]
        left
        split at hr
        · rename_i v h' hone
          have hcomp : compOp P o.op o.type = some O.op ∧ O.dst = o.dst := by
            unfold compOper at h1
            split at h1
            · simp at h1
            · rename_i X hX
              split at h1
              · simp only [Option.some.injEq] at h1; subst h1; exact ⟨hX, rfl⟩
              · split at h1
                · simp only [Option.some.injEq] at h1; subst h1; exact ⟨hX, rfl⟩
                · simp at h1
          refine oper_wp hcf hcomp.1 hone (fun x _ X hx => ev_rel S.W rfl S.ts x X hx) S.W ?_
          intro v' w' μ' hv W' A'
          rw [← hcomp.2]
          exact runOps_wp hcf l R h2 (put s.1 O.dst v, h') s' hr μ' _ w' (S.put A' W' hv O.dst) (fun μ2 a2 w2 S2 A2 => hQ μ2 a2 w2 S2 (A'.trans A2))
        · simp at hr
      · rename_i hwant
        rw [if_neg (by rw [hw]; exact hwant)]
        have hd : O.dst = o.dst := by
          unfold compOper at h1
          split at h1
          · simp at h1
          · split at h1
            · simp only [Option.some.injEq] at h1; subst h1; rfl
            · split at h1
              · simp only [Option.some.injEq] at h1; subst h1; rfl
              · simp at h1
        rw [← hd]
        exact runOps_wp hcf l R h2 (put s.1 O.dst .undef, s.2) s' hr μ _ w (S.put (v := .undef) (v' := undef) (Adv.refl _ _ _) S.W ⟨_, rfl, rfl⟩ O.dst) hQ
    · simp at hL


/-! ### Code -/

def Ex.real : Ex → Exit
  | .normal => .normal
  | .exit i => .exit i
  | .goto l => .goto l
  | .ret => .ret

/-- What stands behind a code. -/
def Post (P : Program) (w0 : World) (μ : Mu) (h : H) (w : World) (e : Ex) (s' : St) : Exit → Act → World → Prop := fun e' a' w' => e' = e.real ∧ ∃ μ', SRel P μ' w0 s' a' w' ∧ Adv μ h w μ' s'.2 w'

theorem Post.trans {μ μ1 : Mu} {h h1 : H} {w w1 : World} (A : Adv μ h w μ1 h1 w1) {e : Ex} {s' : St} {e' : Exit} {a' : Act} {w' : World} (p : Post P w0 μ1 h1 w1 e s' e' a' w') : Post P w0 μ h w e s' e' a' w' := by
  obtain ⟨he, μ', S, A'⟩ := p
  exact ⟨he, μ', S, A.trans A'⟩

/-- A code within a loop. -/
def wpL (P : Program) (c : Code) (Q : Exit → Act → World → Prop) (a : Act) (w : World) : Prop :=
  ∀ (b : Frame) (k : List Item) (cs : List Frame), ∃ e a' w', Q e a' w' ∧ Arrives P (lone (b.at a (.code c :: .inLoop c :: k)) cs w) b k cs e a' w'

theorem wpL_step {c : Code} {Q : Exit → Act → World → Prop} {a : Act} {w : World} (h : c.wp P (Exit.then (wpL P c Q) Q) a w) : wpL P c Q a w := by
  intro b k cs
  obtain ⟨e, a₁, w₁, hq, harr⟩ := h b (.inLoop c :: k) cs
  cases e with
  | normal =>
    obtain ⟨e₂, a₂, w₂, hq₂, harr₂⟩ := hq b k cs
    exact ⟨e₂, a₂, w₂, hq₂, .of_steps (Steps.trans harr (.one step_inLoop)) harr₂⟩
  | exit id => exact ⟨_, a₁, w₁, hq, .pass (x := .inLoop c) rfl (fun _ _ => .inl (by simp)) harr⟩
  | goto l => exact ⟨_, a₁, w₁, hq, .pass (x := .inLoop c) rfl (fun _ _ => .inl (by simp)) harr⟩
  | ret => exact ⟨_, a₁, w₁, hq, .pass (x := .inLoop c) rfl (fun _ _ => .inl (by simp)) harr⟩
  | panic ch => exact ⟨_, a₁, w₁, hq, .pass (x := .inLoop c) rfl (fun _ _ => .inl (by simp)) harr⟩
  | outgrown => exact ⟨_, a₁, w₁, hq, .pass (x := .inLoop c) rfl (fun _ _ => .inl (by simp)) harr⟩

theorem wp_of_wpL {c : Code} {Q : Exit → Act → World → Prop} {a : Act} {w : World} (h : wpL P c Q a w) : (Code.loop c).wp P Q a w := by
  intro b k cs
  obtain ⟨e, a', w', hq, harr⟩ := h b k cs
  exact ⟨e, a', w', hq, .of_steps (.one step_loop) harr⟩

/-- A code within a scope, behind a jump. -/
def wpS (P : Program) (c r : Code) (Q : Exit → Act → World → Prop) (a : Act) (w : World) : Prop :=
  ∀ (b : Frame) (k : List Item) (cs : List Frame), ∃ e a' w', Q e a' w' ∧ Arrives P (lone (b.at a (.code r :: .inScope c :: k)) cs w) b k cs e a' w'

def ScopeQ (P : Program) (c : Code) (Q : Exit → Act → World → Prop) : Exit → Act → World → Prop
  | .goto l, a, w => match findLabel c l with
    | some r => wpS P c r Q a w
    | none => Q (.goto l) a w
  | e, a, w => Q e a w

theorem wpS_step {c r : Code} {Q : Exit → Act → World → Prop} {a : Act} {w : World} (h : r.wp P (ScopeQ P c Q) a w) : wpS P c r Q a w := by
  intro b k cs
  obtain ⟨e, a₁, w₁, hq, harr⟩ := h b (.inScope c :: k) cs
  cases e with
  | normal => exact ⟨.normal, a₁, w₁, hq, Steps.trans harr (.one step_inScope)⟩
  | exit id => exact ⟨_, a₁, w₁, hq, fun k' hk => harr k' (by simpa [exitTo] using hk)⟩
  | goto l =>
    simp only [ScopeQ] at hq
    split at hq
    · rename_i r' hf
      obtain ⟨e₂, a₂, w₂, hq₂, harr₂⟩ := hq b k cs
      exact ⟨e₂, a₂, w₂, hq₂, .of_steps (harr _ (by simp [gotoIn, hf])) harr₂⟩
    · rename_i hf
      exact ⟨_, a₁, w₁, hq, fun k' hk => harr k' (by simp [gotoIn, hf, hk])⟩
  | ret => exact ⟨_, a₁, w₁, hq, harr⟩
  | panic ch => exact ⟨_, a₁, w₁, hq, harr⟩
  | outgrown => exact ⟨_, a₁, w₁, hq, harr⟩

theorem wp_of_wpS {c : Code} {Q : Exit → Act → World → Prop} {a : Act} {w : World} (h : wpS P c c Q a w) : (Code.scope c).wp P Q a w := by
  intro b k cs
  obtain ⟨e, a', w', hq, harr⟩ := h b k cs
  exact ⟨e, a', w', hq, .of_steps (.one step_scope) harr⟩

theorem find_rel : ∀ (C : Code) (c : IC), compCode P C = some c → ∀ l, (c.find l = none → findLabel C l = none) ∧ ∀ r, c.find l = some r → ∃ R, findLabel C l = some R ∧ compCode P R = some r := by
  intro C
  induction C with
  | seq A B ihA ihB =>
    intro c hc l
    simp only [compCode] at hc
    split at hc
    · rename_i a b hA hB
      simp only [Option.some.injEq] at hc
      subst hc
      obtain ⟨a1, a2⟩ := ihA a hA l
      obtain ⟨b1, b2⟩ := ihB b hB l
      simp only [IC.find, findLabel]
      cases ea : a.find l with
      | some r =>
        obtain ⟨R, h1, h2⟩ := a2 r ea
        simp only [h1]
        refine ⟨by simp, ?_⟩
        intro r' hr'
        simp only [Option.some.injEq] at hr'
        subst hr'
        exact ⟨.seq R B, rfl, by simp [compCode, h2, hB]⟩
      | none =>
        simp only [a1 ea]
        exact ⟨b1, b2⟩
    · simp at hc
  | label l' =>
    intro c hc l
    simp only [compCode, Option.some.injEq] at hc
    subst hc
    simp only [IC.find, findLabel]
    split
    · refine ⟨by simp, fun r hr => ?_⟩
      simp only [Option.some.injEq] at hr
      subst hr
      exact ⟨.skip, rfl, rfl⟩
    · exact ⟨by simp, by simp⟩
  | region id ops d =>
    intro c hc l
    cases d <;> (simp only [compCode] at hc; obtain ⟨_, _, rfl⟩ := Option.map_eq_some_iff.1 hc; simp [IC.find, findLabel])
  | cond x A B =>
    intro c hc l
    simp only [compCode] at hc
    split at hc
    · simp only [Option.some.injEq] at hc; subst hc; simp [IC.find, findLabel]
    · simp at hc
  | rangeFunc f ps A B => intro c hc l; simp [compCode] at hc
  | refuse s => intro c hc l; simp [compCode] at hc
  | skip => intro c hc l; simp only [compCode, Option.some.injEq] at hc; subst hc; simp [IC.find, findLabel]
  | exit i => intro c hc l; simp only [compCode, Option.some.injEq] at hc; subst hc; simp [IC.find, findLabel]
  | goto i => intro c hc l; simp only [compCode, Option.some.injEq] at hc; subst hc; simp [IC.find, findLabel]
  | ret => intro c hc l; simp only [compCode, Option.some.injEq] at hc; subst hc; simp [IC.find, findLabel]
  | block i A _ => intro c hc l; simp only [compCode] at hc; obtain ⟨_, _, rfl⟩ := Option.map_eq_some_iff.1 hc; simp [IC.find, findLabel]
  | loop A _ => intro c hc l; simp only [compCode] at hc; obtain ⟨_, _, rfl⟩ := Option.map_eq_some_iff.1 hc; simp [IC.find, findLabel]
  | scope A _ => intro c hc l; simp only [compCode] at hc; obtain ⟨_, _, rfl⟩ := Option.map_eq_some_iff.1 hc; simp [IC.find, findLabel]

/-- What 'rc' says of the rest of a scope. -/
def RestOk (P : Program) (w0 : World) (rc : IC → St → Option (Ex × St)) : Prop := ∀ (C R : Code) (c r : IC), compCode P C = some c → compCode P R = some r → ∀ (s : St) (e : Ex) (s' : St), rc (.inS c r) s = some (e, s') → ∀ μ a w, SRel P μ w0 s a w → wpS P C R (Post P w0 μ s.2 w e s') a w

/-- What a drawn region says. -/
def DrawOk (P : Program) (w0 : World) (cf : CallF) : Prop := ∀ (ops : Array Oper) (dl : List DOper), compDraw P ops = some dl → ∀ (s s' : St), runDraw cf dl s.1 s.2 [] = some s' → ∀ (id : Nat) μ a w, SRel P μ w0 s a w → (Code.region id ops true).wp P (Post P w0 μ s.2 w .normal s') a w

theorem exec_wp {cf : CallF} (hcf : CallOk P w0 cf) {rc : IC → St → Option (Ex × St)} (hrc : RestOk P w0 rc) (hdr : DrawOk P w0 cf) (fuel : Nat) : ∀ (C : Code) (c : IC), compCode P C = some c → ∀ (s : St) (e : Ex) (s' : St), exec cf rc fuel c s = some (e, s') →
    ∀ μ a w, SRel P μ w0 s a w → C.wp P (Post P w0 μ s.2 w e s') a w := by
  intro C
  induction C with
  | skip =>
    intro c hc s e s' hx μ a w S
    simp only [compCode, Option.some.injEq] at hc; subst hc
    simp only [exec, Option.some.injEq, Prod.mk.injEq] at hx
    obtain ⟨rfl, rfl⟩ := hx
    exact wp_skip ⟨rfl, μ, S, Adv.refl _ _ _⟩
  | label l =>
    intro c hc s e s' hx μ a w S
    simp only [compCode, Option.some.injEq] at hc; subst hc
    simp only [exec, Option.some.injEq, Prod.mk.injEq] at hx
    obtain ⟨rfl, rfl⟩ := hx
    exact wp_label ⟨rfl, μ, S, Adv.refl _ _ _⟩
  | exit i =>
    intro c hc s e s' hx μ a w S
    simp only [compCode, Option.some.injEq] at hc; subst hc
    simp only [exec, Option.some.injEq, Prod.mk.injEq] at hx
    obtain ⟨rfl, rfl⟩ := hx
    exact wp_exit ⟨rfl, μ, S, Adv.refl _ _ _⟩
  | goto l =>
    intro c hc s e s' hx μ a w S
    simp only [compCode, Option.some.injEq] at hc; subst hc
    simp only [exec, Option.some.injEq, Prod.mk.injEq] at hx
    obtain ⟨rfl, rfl⟩ := hx
    exact wp_goto ⟨rfl, μ, S, Adv.refl _ _ _⟩
  | ret =>
    intro c hc s e s' hx μ a w S
    simp only [compCode, Option.some.injEq] at hc; subst hc
    simp only [exec, Option.some.injEq, Prod.mk.injEq] at hx
    obtain ⟨rfl, rfl⟩ := hx
    exact wp_ret ⟨rfl, μ, S, Adv.refl _ _ _⟩
  | region id ops d =>
    intro c hc s e s' hx μ a w S
    cases d with
    | false =>
      simp only [compCode] at hc
      obtain ⟨L, hL, rfl⟩ := Option.map_eq_some_iff.1 hc
      simp only [exec] at hx
      obtain ⟨s1, h1, h2⟩ := Option.map_eq_some_iff.1 hx
      simp only [Prod.mk.injEq] at h2
      obtain ⟨rfl, rfl⟩ := h2
      exact wp_region_list (runOps_wp hcf ops.toList L hL s s1 h1 μ a w S fun μ' a' w' S' A' => ⟨rfl, μ', S', A'⟩)
    | true =>
      simp only [compCode] at hc
      obtain ⟨L, hL, rfl⟩ := Option.map_eq_some_iff.1 hc
      simp only [exec] at hx
      obtain ⟨s1, h1, h2⟩ := Option.map_eq_some_iff.1 hx
      simp only [Prod.mk.injEq] at h2
      obtain ⟨rfl, rfl⟩ := h2
      exact hdr ops L hL s s1 h1 id μ a w S
  | seq A B ihA ihB =>
    intro c hc s e s' hx μ a w S
    simp only [compCode] at hc
    split at hc
    · rename_i ca cb hA hB
      simp only [Option.some.injEq] at hc; subst hc
      simp only [exec] at hx
      split at hx
      · rename_i s1 h1
        refine wp_seq (wp_mono (ihA ca hA s .normal s1 h1 μ a w S) ?_)
        rintro e1 a1 w1 ⟨rfl, μ1, S1, A1⟩
        refine wp_mono (ihB cb hB s1 e s' hx μ1 a1 w1 S1) ?_
        intro e2 a2 w2 p
        exact p.trans A1
      · rename_i r hr
        refine wp_seq (wp_mono (ihA ca hA s e s' hx μ a w S) ?_)
        rintro e1 a1 w1 ⟨rfl, p⟩
        cases e with
        | normal => exact absurd hx (hr _)
        | exit i => exact ⟨rfl, p⟩
        | goto l => exact ⟨rfl, p⟩
        | ret => exact ⟨rfl, p⟩
    · simp at hc
  | cond x A B ihA ihB =>
    intro c hc s e s' hx μ a w S
    simp only [compCode] at hc
    split at hc
    · rename_i X ca cb hX hA hB
      simp only [Option.some.injEq] at hc; subst hc
      have hr := ev_rel S.W rfl S.ts x X hX
      simp only [exec] at hx
      split at hx
      · rename_i he; rw [he] at hr; exact wp_cond_true hr (ihA ca hA s e s' hx μ a w S)
      · rename_i he; rw [he] at hr; exact wp_cond_false hr (ihB cb hB s e s' hx μ a w S)
      · simp at hx
    · simp at hc
  | block i A ih =>
    intro c hc s e s' hx μ a w S
    simp only [compCode] at hc
    obtain ⟨ca, hA, rfl⟩ := Option.map_eq_some_iff.1 hc
    simp only [exec] at hx
    split at hx
    · rename_i j s1 h1
      refine wp_block (wp_mono (ih ca hA s (.exit j) s1 h1 μ a w S) ?_)
      rintro e1 a1 w1 ⟨rfl, p⟩
      split at hx
      · rename_i hj
        simp only [Option.some.injEq, Prod.mk.injEq] at hx
        obtain ⟨rfl, rfl⟩ := hx
        simp only [Ex.real, Exit.inBlock]
        rw [if_pos (by simpa using hj)]
        exact ⟨rfl, p⟩
      · rename_i hj
        simp only [Option.some.injEq, Prod.mk.injEq] at hx
        obtain ⟨rfl, rfl⟩ := hx
        simp only [Ex.real, Exit.inBlock]
        rw [if_neg (by simpa using hj)]
        exact ⟨rfl, p⟩
    · rename_i r hr
      refine wp_block (wp_mono (ih ca hA s e s' hx μ a w S) ?_)
      rintro e1 a1 w1 ⟨rfl, p⟩
      cases e with
      | exit i => exact absurd hx (hr _ _)
      | normal => exact ⟨rfl, p⟩
      | goto l => exact ⟨rfl, p⟩
      | ret => exact ⟨rfl, p⟩
  | loop A ih =>
    intro c hc s e s' hx μ a w S
    simp only [compCode] at hc
    obtain ⟨ca, hA, rfl⟩ := Option.map_eq_some_iff.1 hc
    simp only [exec] at hx
    have key : ∀ (n : Nat) (s : St), rounds (exec cf rc fuel ca) n s = some (e, s') → ∀ μ a w, SRel P μ w0 s a w → wpL P A (Post P w0 μ s.2 w e s') a w := by
      intro n
      induction n with
      | zero => intro s h; simp [rounds] at h
      | succ n ihn =>
        intro s h μ a w S
        simp only [rounds] at h
        split at h
        · rename_i s1 h1
          refine wpL_step (wp_mono (ih ca hA s .normal s1 h1 μ a w S) ?_)
          rintro e1 a1 w1 ⟨rfl, μ1, S1, A1⟩
          intro b k cs
          obtain ⟨e2, a2, w2, p, r⟩ := ihn s1 h μ1 a1 w1 S1 b k cs
          exact ⟨e2, a2, w2, p.trans A1, r⟩
        · rename_i r hr
          refine wpL_step (wp_mono (ih ca hA s e s' h μ a w S) ?_)
          rintro e1 a1 w1 ⟨rfl, p⟩
          cases e with
          | normal => exact absurd h (hr _)
          | exit i => exact ⟨rfl, p⟩
          | goto l => exact ⟨rfl, p⟩
          | ret => exact ⟨rfl, p⟩
    exact wp_of_wpL (key fuel s hx μ a w S)
  | scope A ih =>
    intro c hc s e s' hx μ a w S
    simp only [compCode] at hc
    obtain ⟨ca, hA, rfl⟩ := Option.map_eq_some_iff.1 hc
    simp only [exec] at hx
    refine wp_of_wpS (wpS_step ?_)
    split at hx
    · rename_i l s1 h1
      refine wp_mono (ih ca hA s (.goto l) s1 h1 μ a w S) ?_
      rintro e1 a1 w1 ⟨rfl, μ1, S1, A1⟩
      simp only [Ex.real, ScopeQ]
      split at hx
      · rename_i r hf
        obtain ⟨R, h2, h3⟩ := (find_rel A ca hA l).2 r hf
        simp only [h2]
        intro b k cs
        obtain ⟨e2, a2, w2, p, q⟩ := hrc A R ca r hA h3 s1 e s' hx μ1 a1 w1 S1 b k cs
        exact ⟨e2, a2, w2, p.trans A1, q⟩
      · rename_i hf
        simp only [(find_rel A ca hA l).1 hf]
        simp only [Option.some.injEq, Prod.mk.injEq] at hx
        obtain ⟨rfl, rfl⟩ := hx
        exact ⟨rfl, μ1, S1, A1⟩
    · rename_i r hr
      refine wp_mono (ih ca hA s e s' hx μ a w S) ?_
      rintro e1 a1 w1 ⟨rfl, p⟩
      cases e with
      | goto l => exact absurd hx (hr _ _)
      | normal => exact ⟨rfl, p⟩
      | exit i => exact ⟨rfl, p⟩
      | ret => exact ⟨rfl, p⟩
  | rangeFunc f ps A B => intro c hc; simp [compCode] at hc
  | refuse s => intro c hc; simp [compCode] at hc

theorem inS_wp {cf : CallF} (hcf : CallOk P w0 cf) {rc : IC → St → Option (Ex × St)} (hrc : RestOk P w0 rc) (hdr : DrawOk P w0 cf) (fuel : Nat) : RestOk P w0 (exec cf rc fuel) := by
  intro C R c r hC hR s e s' hx μ a w S
  simp only [exec] at hx
  refine wpS_step ?_
  split at hx
  · rename_i l s1 h1
    refine wp_mono (exec_wp hcf hrc hdr fuel R r hR s (.goto l) s1 h1 μ a w S) ?_
    rintro e1 a1 w1 ⟨rfl, μ1, S1, A1⟩
    simp only [Ex.real, ScopeQ]
    split at hx
    · rename_i r' hf
      obtain ⟨R', h2, h3⟩ := (find_rel C c hC l).2 r' hf
      simp only [h2]
      intro b k cs
      obtain ⟨e2, a2, w2, p, q⟩ := hrc C R' c r' hC h3 s1 e s' hx μ1 a1 w1 S1 b k cs
      exact ⟨e2, a2, w2, p.trans A1, q⟩
    · rename_i hf
      simp only [(find_rel C c hC l).1 hf]
      simp only [Option.some.injEq, Prod.mk.injEq] at hx
      obtain ⟨rfl, rfl⟩ := hx
      exact ⟨rfl, μ1, S1, A1⟩
  · rename_i r' hr
    refine wp_mono (exec_wp hcf hrc hdr fuel R r hR s e s' hx μ a w S) ?_
    rintro e1 a1 w1 ⟨rfl, p⟩
    cases e with
    | goto l => exact absurd hx (hr _ _)
    | normal => exact ⟨rfl, p⟩
    | exit i => exact ⟨rfl, p⟩
    | ret => exact ⟨rfl, p⟩

/-! ### Calls -/

/-- The machine's functions are the program's. -/
def FOk (P : Program) (F : FTab) : Prop := ∀ f fn, F f = some fn → ∃ fn', P.funcs[f]? = some fn' ∧ (fn'.name == "runtime.NumGoroutine") = false ∧ (compFunc P fn' = some fn ∨ (fn.known = true ∧ fn'.body.isSome = true ∧ ∀ W, Calls P f #[] W (fun e W' => e = .returned (.bool true) ∧ Below W.heap.size W W')))

def resF (a : Act) : ResultVar → Sem Value
  | .tmp t => pure (a.tmps.getD t undef)
  | .cell x t => do loadVar t (← asAddr (a.tmps.getD x undef))

theorem resOf_rel {μ : Mu} {s : St} {a : Act} {w : World} (S : SRel P μ w0 s a w) : ∀ (rs : List ResultVar) (L : List (Nat × Option (Option Nat))), compRes P rs = some L → ∀ vs, resOf s.2 s.1 L = some vs →
    ∃ vs' : List Value, (rs.mapM (resF a)).run P w = .ok vs' w ∧ VRels μ vs vs'
  | [], L, hL, vs, hv => by
    simp only [compRes, Option.some.injEq] at hL
    subst hL
    simp only [resOf, Option.some.injEq] at hv
    subst hv
    exact ⟨[], rfl, rfl⟩
  | .tmp t :: rs, L, hL, vs, hv => by
    simp only [compRes] at hL
    obtain ⟨L', h1, rfl⟩ := Option.map_eq_some_iff.1 hL
    simp only [resOf] at hv
    obtain ⟨vs1, h2, rfl⟩ := Option.map_eq_some_iff.1 hv
    obtain ⟨vs', h3, h4⟩ := resOf_rel S rs L' h1 vs1 h2
    have := ev_rel S.W rfl S.ts (.tmp t) (.t t) rfl
    exact ⟨a.tmps.getD t undef :: vs', by simp only [List.mapM_cons, resF, Sem.run_bind, Sem.run_pure, Result.andThen_ok, h3], _, _, rfl, this, h4⟩
  | .cell x t :: rs, L, hL, vs, hv => by
    simp only [compRes] at hL
    split at hL
    · rename_i g L' h0 h1
      simp only [Option.some.injEq] at hL
      subst hL
      simp only [resOf] at hv
      split at hv
      · rename_i v h' hi
        obtain ⟨vs1, h2, rfl⟩ := Option.map_eq_some_iff.1 hv
        obtain ⟨vs', h3, h4⟩ := resOf_rel S rs L' h1 vs1 h2
        have hx := ev_rel S.W rfl S.ts (.tmp x) (.t x) rfl
        simp only [iop] at hi
        split at hi
        · rename_i ad he
          rw [he] at hx
          have hl : s.2.ldg ad g = some v := by
            obtain ⟨v', q1, q2⟩ := Option.map_eq_some_iff.1 hi
            simp only [Ans.val.injEq] at q2
            obtain ⟨rfl, _⟩ := q2
            exact q1
          obtain ⟨u, r1, r2⟩ := load_rs S.W h0 hl hx
          obtain ⟨rb, hm, hp⟩ := hx
          have hp' : a.tmps.getD x undef = .pointer (some ⟨rb.r, ad.o, none⟩) := hp
          have r1' : (resF a (.cell x t)).run P w = .ok u w := by
            rw [← r1]
            simp only [resF, Instr.loadAt, Act.eval, hp', Instr.sureAddr, asAddr]
          exact ⟨u :: vs', by simp only [List.mapM_cons, Sem.run_bind, r1', Sem.run_pure, Result.andThen_ok, h3], _, _, rfl, r2, h4⟩
        · simp at hi
      · simp at hv
    · simp at hL

theorem retV_rel {μ : Mu} {s : St} {a : Act} {w : World} (S : SRel P μ w0 s a w) {fn : Func} {L : List (Nat × Option (Option Nat))} (hL : compRes P fn.results.toList = some L) {v : AV} (hv : retV s.2 s.1 L = some v) :
    ∃ v', (results fn a.tmps).run P w = .ok v' w ∧ VRel μ v v' := by
  unfold retV at hv
  have key : ∀ vs, resOf s.2 s.1 L = some vs → ∃ vs' : List Value, (results fn a.tmps).run P w = .ok (if h : vs'.toArray.size = 1 then vs'.toArray[0] else .tuple vs'.toArray) w ∧ VRels μ vs vs' := by
    intro vs hvs
    obtain ⟨vs', h1, h2⟩ := resOf_rel S _ L hL vs hvs
    refine ⟨vs', ?_, h2⟩
    have he : (fun x => (match x with | ResultVar.tmp t => pure (a.tmps.getD t undef) | ResultVar.cell x t => do loadVar t (← asAddr (a.tmps.getD x undef)) : Sem Value)) = resF a := by funext x; cases x <;> rfl
    unfold results
    rw [Array.mapM_eq_mapM_toList]
    simp only [Sem.run_bind, Sem.run_map]
    erw [he]
    rw [h1]
    rfl
  split at hv
  · rename_i u hu
    simp only [Option.some.injEq] at hv
    subst hv
    obtain ⟨vs', h1, h2⟩ := key _ hu
    obtain ⟨u', y, rfl, h3, h4⟩ := h2
    cases h4
    exact ⟨u', by simpa using h1, h3⟩
  · rename_i vs hne hvs
    simp only [Option.some.injEq] at hv
    subst hv
    obtain ⟨vs', h1, h2⟩ := key _ hvs
    have hlen := h2.length
    have hs : ¬ vs'.toArray.size = 1 := by
      intro e
      simp only [List.size_toArray] at e
      match vs, hne, hlen with
      | [x], hne, _ => exact hne x rfl
      | [], _, hl => simp at hl; omega
      | x :: y :: r, _, hl => simp at hl; omega
    refine ⟨.tuple vs'.toArray, by rw [dif_neg hs] at h1; exact h1, _, rfl, by simpa using h2⟩
  · simp at hv

/-- What was there stands: the state goes on. -/
theorem WRel.below {μ : Mu} {w0 : World} {ng : Nat} {h : H} {w w' : World} (W : WRel μ w0 ng h w) (hb : Below w.heap.size w w') : WRel μ w0 ng h w' ∧ Adv μ h w μ h w' := by
  refine ⟨⟨?_, W.glob, ?_, ?_, W.inj⟩, ⟨Mu.le.refl μ, hb.size, Nat.le_refl _, fun r hr _ => hb.block r hr, fun _ g rb e => .inl ⟨g, rb, e, .inl rfl⟩, fun _ _ _ => rfl⟩⟩
  · refine ⟨hb.os.trans W.base.os, hb.tape.trans W.base.tape, hb.output.trans W.base.output, Nat.le_trans W.base.size hb.size, ?_⟩
    intro k hk
    rw [hb.block k (Nat.lt_of_lt_of_le hk W.base.size)]
    exact W.base.block k hk
  · intro b g rb e
    obtain ⟨h1, h2⟩ := W.dom b g rb e
    exact ⟨Nat.lt_of_lt_of_le h1 hb.size, h2⟩
  · intro b B rb h1 h2
    obtain ⟨⟨o, h3, h4⟩, h5⟩ := W.blk b B rb h1 h2
    refine ⟨⟨o, ?_, h4⟩, h5⟩
    rw [hb.block _ (getElem?_lt h3)]
    exact h3

theorem callStep_ok {F : FTab} (hF : FOk P F) {n : Nat} {m : Mach} (hcf : CallOk P w0 m.call) (hrc : RestOk P w0 m.code) (hdr : DrawOk P w0 m.call) : CallOk P w0 (callStep F n m) := by
  intro f args h v h' hc μ w args' hargs W
  unfold callStep at hc
  split at hc
  · simp at hc
  · rename_i fn hfn
    obtain ⟨fn', h1, h2, h3 | ⟨hk, hb, hcl⟩⟩ := hF f fn hfn
    case inr =>
      rw [if_pos hk] at hc
      split at hc
      · rename_i ha
        simp only [Option.some.injEq, Prod.mk.injEq] at hc
        obtain ⟨rfl, rfl⟩ := hc
        obtain rfl : args = [] := by simpa using ha
        obtain rfl : args' = #[] := by cases args'; simp only [VRels] at hargs; simpa using hargs
        refine ⟨⟨fn', h1, hb, h2⟩, (hcl w).mono ?_⟩
        rintro e w' ⟨rfl, hbel⟩
        have W' := W.below hbel
        exact ⟨_, μ, rfl, rfl, W'.1, W'.2⟩
      · simp at hc
    unfold compFunc at h3
    split at h3
    · simp at h3
    · rename_i C hbody
      split at h3
      · rename_i c L hC hL
        simp only [Option.some.injEq] at h3
        subst h3
        simp only [Bool.false_eq_true, if_false] at hc
        refine ⟨⟨fn', h1, by simp [hbody], h2⟩, ?_⟩
        have hlen : args.length = args'.size := by simpa using hargs.length
        have S : SRel P μ w0 (args ++ List.replicate (fn'.ntmps - args.length) .undef, h) { tmps := args' ++ Array.replicate (fn'.ntmps - args'.size) undef, defers := [] } w := by
          refine ⟨?_, rfl, W⟩
          have hu : VRel μ .undef undef := ⟨_, rfl, rfl⟩
          have := hargs.append (VRels.replicate hu (fn'.ntmps - args.length))
          simpa [hlen] using this
        refine calls_of_wp h1 hbody ?_
        have fin : ∀ (e : Ex) (s' : St), (e = .normal ∨ e = .ret) → exec m.call m.code n c (args ++ List.replicate (fn'.ntmps - args.length) .undef, h) = some (e, s') → (retV s'.2 s'.1 L).map (·, s'.2) = some (v, h') →
            C.wp P (bodyPost P fn' fun e w' => ∃ v' μ', e = .returned v' ∧ VRel μ' v v' ∧ WRel μ' w0 P.globals.size h' w' ∧ Adv μ h w μ' h' w') { tmps := args' ++ Array.replicate (fn'.ntmps - args'.size) undef, defers := [] } w := by
          intro e s' he hx hr
          obtain ⟨v1, hv1, hv2⟩ := Option.map_eq_some_iff.1 hr
          simp only [Prod.mk.injEq] at hv2
          obtain ⟨rfl, rfl⟩ := hv2
          refine wp_mono (exec_wp hcf hrc hdr n C c hC _ e s' hx μ _ w S) ?_
          rintro e1 a1 w1 ⟨rfl, μ1, S1, A1⟩
          obtain ⟨v', r1, r2⟩ := retV_rel S1 hL hv1
          rcases he with rfl | rfl
          · exact ⟨S1.df, v', r1, v', μ1, rfl, r2, S1.W, A1⟩
          · exact ⟨S1.df, v', r1, v', μ1, rfl, r2, S1.W, A1⟩
        split at hc
        · rename_i s' hx; exact fin .normal s' (.inl rfl) hx hc
        · rename_i s' hx; exact fin .ret s' (.inr rfl) hx hc
        · simp at hc
      · simp at h3

theorem mach_ok {F : FTab} (hF : FOk P F) (hdr : ∀ cf, CallOk P w0 cf → DrawOk P w0 cf) : ∀ n, CallOk P w0 (mach F n).call ∧ RestOk P w0 (mach F n).code
  | 0 => ⟨by intro f args h v h' hc; simp [mach, Mach.none] at hc, by intro C R c r _ _ s e s' hx; simp [mach, Mach.none] at hx⟩
  | n + 1 => by
    obtain ⟨h1, h2⟩ := mach_ok hF hdr n
    exact ⟨callStep_ok hF h1 h2 (hdr _ h1), inS_wp h1 h2 (hdr _ h1) n⟩

end
end Go.Det

