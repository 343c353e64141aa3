/- The deterministic machine: values, memory and operations of a machine that draws nothing (no order of evaluation, no capacity), in which a Go function of the given program is run; that the real machine follows it is shown in the texts behind this one. -/
import Derived.Orders
set_option linter.unusedVariables false
set_option linter.unusedSimpArgs false
set_option linter.unusedSectionVars false
namespace Go.Det

/-- An address: block, its state (an append that may move a row raises it), place. -/
structure AA where
  b : Nat
  g : Nat
  o : Nat
  deriving DecidableEq, Repr, Inhabited

/-- A capacity: known, or open (what an append left), with the cells of an element. -/
inductive Cp where
  | ex (n : Nat)
  | op (e : Nat)
  deriving DecidableEq, Repr, Inhabited

inductive AV where
  | bool (b : Bool)
  | int (k : IntKind) (n : Int)
  | str (s : List UInt8)
  | nilp
  | ptr (a : AA)
  | nils
  | sl (a : AA) (n : Nat) (c : Cp)
  | nilm
  | map (r : Nat)
  | nilf
  | fn (f : Fn) (first captured : List AV)
  | nili
  | ifc (t : TypeId) (v : AV)
  | agg (cs : List AV)
  | tup (vs : List AV)
  | any
  deriving Inhabited, Repr

def AV.undef : AV := .tup []

def AV.cells : AV → List AV
  | .agg cs => cs
  | v => [v]

def AV.one : AV → Bool
  | .agg _ => false
  | .tup _ => false
  | .any => false
  | _ => true

inductive Blk where
  | cells (g : Nat) (e : TypeId) (c : List AV) (fz : Nat) (ro : Bool)
  | map (es : List (AV × AV × Nat)) (clock : Nat)
  | iter (s : List UInt8) (pos : Nat)
  deriving Inhabited, Repr

/-- A tree of blocks. -/
inductive Tr where
  | leaf
  | node (v : Option Blk) (l r : Tr)
  deriving Inhabited, Repr

def Tr.get : Tr → Nat → Option Blk
  | .leaf, _ => none
  | .node v l r, i => match i with
    | 0 => v
    | j + 1 => if j % 2 == 0 then l.get (j / 2) else r.get (j / 2)

def Tr.setF : Nat → Tr → Nat → Blk → Tr
  | 0, t, _, _ => t
  | f + 1, t, i, x =>
    let (v, l, r) := match t with | .leaf => (none, Tr.leaf, Tr.leaf) | .node v l r => (v, l, r)
    match i with
    | 0 => .node (some x) l r
    | j + 1 => if j % 2 == 0 then .node v (setF f l (j / 2) x) r else .node v l (setF f r (j / 2) x)

structure H where
  n : Nat
  t : Tr
  deriving Inhabited, Repr

def H.get (h : H) (b : Nat) : Option Blk := h.t.get b
def H.set (h : H) (b : Nat) (x : Blk) : H := { h with t := Tr.setF (b + 1) h.t b x }
def H.new (h : H) (x : Blk) : H := { n := h.n + 1, t := Tr.setF (h.n + 1) h.t h.n x }

/-- How values of a type are held against each other. -/
inductive EqD where
  | bo
  | num
  | str
  | ptr
  | sl
  | map
  | fn
  | ifc
  | st (fs : List (Nat × Option Nat × EqD))
  | arr (n sz : Nat) (ag : Bool) (d : EqD)
  deriving Inhabited, Repr

inductive IX where
  | t (n : Nat)
  | c (v : AV)
  | g (n : Nat)
  deriving Inhabited, Repr

inductive IOp where
  | mv (x : IX)
  | pick (c a b : IX)
  | new (e : TypeId) (x : IX)
  | build (z : List AV) (ps : List (Nat × Nat × IX))
  | bsl (e : TypeId) (z : List AV) (n : Nat) (ps : List (Nat × Nat × IX))
  | ld (ag : Option Nat) (x : IX)
  | st (n : Nat) (a v : IX)
  | nilck (x : IX)
  | bin (op : BinOp) (x y : IX)
  | eq (d : EqD) (neg lit : Bool) (x y : IX)
  | un (op : UnOp) (x : IX)
  | cvI (k : IntKind) (x : IX)
  | cvSB (e : TypeId) (x : IX)
  | cvBS (x : IX)
  | cvSS (x : IX)
  | cvIS (x : IX)
  | cvBB (x : IX)
  | mkI (t : TypeId) (x : IX)
  | mkF (f : Fn) (first cap : List IX)
  | mkM
  | mkS (e : TypeId) (z : List AV) (bytes : Nat) (l c : IX)
  | slS (x : IX) (lo hi : Option IX)
  | slL (sz : Nat) (x : IX) (lo hi mx : Option IX)
  | slA (n sz : Nat) (x : IX) (lo hi mx : Option IX)
  | fa (off : Nat) (x : IX)
  | fd (off : Nat) (sz : Option Nat) (x : IX)
  | ia (sz : Nat) (x i : IX)
  | iaA (n sz : Nat) (x i : IX)
  | ixS (x i : IX)
  | ixA (n sz : Nat) (ag : Bool) (x i : IX)
  | ext (x : IX) (i : Nat)
  | rng (x : IX)
  | next (x : IX)
  | sap (n : Nat) (x : IX)
  | call (f : FuncId) (args : List IX)
  | callv (f : IX) (args : List IX)
  | app (e sz bytes : Nat) (st : Bool) (x y : IX)
  | len (st : Bool) (x : IX)
  | copy (sz : Nat) (x y : IX)
  | min (x y : IX)
  | max (x y : IX)
  | look (d : EqD) (z : AV) (ok : Bool) (x i : IX)
  | upd (d : EqD) (x k v : IX)
  | mlen (x : IX)
  | xt (k : Nat) (args : List IX)
  | fail
  deriving Inhabited, Repr

structure IOper where
  dst : Option Nat
  op : IOp
  guard : Option (Nat × Bool)
  deriving Inhabited, Repr

/-- An operation of a region whose order is drawn: an act (it may write) or not, its place in the text, and those that stand ahead of it in every order. -/
structure DOper extends IOper where
  act : Bool
  id : Nat
  mask : Nat
  deriving Inhabited, Repr

inductive IC where
  | skip
  | region (ops : List IOper)
  | draw (ops : List DOper)
  | seq (a b : IC)
  | cond (x : IX) (a b : IC)
  | block (id : Nat) (a : IC)
  | loop (a : IC)
  | exit (id : Nat)
  | ret
  | scope (a : IC)
  | inS (a r : IC)
  | label (l : Nat)
  | goto (l : Nat)
  deriving Inhabited, Repr

/-- A function. 'known': one without parameters that is known to answer true and to leave what was there: it is not run; with 'nat': one of which a contract is known. -/
abbrev NatF := List AV → H → Option (AV × H)
instance : Repr NatF := ⟨fun _ _ => "nat"⟩
structure IFunc where
  ntmps : Nat
  results : List (Nat × Option (Option Nat))
  body : IC
  known : Bool
  nat : Option NatF := none
  deriving Inhabited, Repr

/-! ### Memory -/

def getL {α : Type} : List α → Nat → Option α
  | [], _ => none
  | x :: _, 0 => some x
  | _ :: l, i + 1 => getL l i

def setL {α : Type} : List α → Nat → α → List α
  | [], _, _ => []
  | _ :: l, 0, v => v :: l
  | x :: l, i + 1, v => x :: setL l i v

/-- The n cells from a place on. -/
def cut {α : Type} (c : List α) (o n : Nat) : Option (List α) :=
  let d := c.drop o
  let r := d.take n
  if r.length == n then some r else none

def putAt {α : Type} : List α → Nat → List α → List α
  | c, 0, vs => vs ++ c.drop vs.length
  | x :: c, i + 1, vs => x :: putAt c i vs
  | [], _ + 1, _ => []

def H.row (h : H) (a : AA) : Option (List AV) :=
  match h.get a.b with
  | some (.cells g _ c k ro) => if g == a.g && (!ro || decide (k ≤ a.o)) then some c else none
  | _ => none

def H.ld (h : H) (a : AA) : Option AV :=
  match h.row a with
  | some c => getL c a.o
  | none => none

def H.ldn (h : H) (a : AA) (n : Nat) : Option (List AV) :=
  match h.row a with
  | some c => cut c a.o n
  | none => none

def H.ldg (h : H) (a : AA) : Option Nat → Option AV
  | none => h.ld a
  | some n => (h.ldn a n).map .agg

def H.st (h : H) (a : AA) (vs : List AV) : Option H :=
  match h.get a.b with
  | some (.cells g e c fz ro) =>
    if g == a.g && !ro && fz ≤ a.o && a.o + vs.length ≤ c.length && vs.all AV.one then some (h.set a.b (.cells g e (putAt c a.o vs) fz ro)) else none
  | _ => none

/-! ### Operations -/

inductive Ans where
  | val (v : AV) (h : H)
  | call (f : FuncId) (args : List AV)
  deriving Inhabited

def ev (ts : List AV) : IX → AV
  | .t n => (getL ts n).getD .undef
  | .c v => v
  | .g n => .ptr ⟨n, 0, 0⟩

def fillL : List AV → List (Nat × Nat × AV) → Option (List AV)
  | c, [] => some c
  | c, (off, sz, v) :: r => if v.cells.length == sz && off + sz ≤ c.length then fillL (putAt c off v.cells) r else none

def part (cs : List AV) (off : Nat) : Option Nat → Option AV
  | none => getL cs off
  | some n => some (.agg ((cs.drop off).take n))

def binInt (op : BinOp) (k : IntKind) (a b : Int) : Option AV :=
  match op with
  | .add => some (.int k (k.wrap (a + b)))
  | .sub => some (.int k (k.wrap (a - b)))
  | .mul => some (.int k (k.wrap (a * b)))
  | .quo => if b == 0 then none else some (.int k (k.wrap (a.tdiv b)))
  | .rem => if b == 0 then none else some (.int k (a.tmod b))
  | .and => some (.int k (k.wrap (BitVec.ofInt k.bits a &&& BitVec.ofInt k.bits b).toNat))
  | .or => some (.int k (k.wrap (BitVec.ofInt k.bits a ||| BitVec.ofInt k.bits b).toNat))
  | .xor => some (.int k (k.wrap (BitVec.ofInt k.bits a ^^^ BitVec.ofInt k.bits b).toNat))
  | .andNot => some (.int k (k.wrap (BitVec.ofInt k.bits a &&& ~~~(BitVec.ofInt k.bits b)).toNat))
  | .eql => some (.bool (a == b))
  | .neq => some (.bool (a != b))
  | .lss => some (.bool (a < b))
  | .leq => some (.bool (a ≤ b))
  | .gtr => some (.bool (a > b))
  | .geq => some (.bool (a ≥ b))
  | _ => none

def shInt (op : BinOp) (k : IntKind) (x y : Int) : Option AV :=
  if y < 0 then none else
  let n := min y.toNat k.bits
  match op with
  | .shl => some (.int k (k.wrap (x * 2 ^ n)))
  | .shr => some (.int k (x.fdiv (2 ^ n)))
  | _ => none

def binStr (op : BinOp) (x y : List UInt8) : Option AV :=
  match op with
  | .add => if x.length + y.length ≤ 9223372036854775807 then some (.str (x ++ y)) else none
  | .eql => some (.bool (x == y))
  | .neq => some (.bool (!(x == y)))
  | .lss => some (.bool (Op.bytesLess x y))
  | .leq => some (.bool (Op.bytesLess x y || x == y))
  | .gtr => some (.bool (!(Op.bytesLess x y || x == y)))
  | .geq => some (.bool (!Op.bytesLess x y))
  | _ => none

def binop (op : BinOp) (x y : AV) : Option AV :=
  match x, y with
  | .int k a, .int k' b => match op with
    | .shl | .shr => shInt op k a b
    | _ => if k = k' then binInt op k a b else none
  | .str a, .str b => binStr op a b
  | _, _ => none

def unop (op : UnOp) (x : AV) : Option AV :=
  match op, x with
  | .neg, .int k n => binInt .sub k 0 n
  | .xor, .int k n => binInt .xor k (if k.signed then -1 else k.max) n
  | .not, .bool b => some (.bool !b)
  | _, _ => none

mutual
def eqv : Nat → EqD → AV → AV → Option Bool
  | 0, _, _, _ => none
  | f + 1, d, x, y => match d, x, y with
    | .bo, .bool a, .bool b => some (a == b)
    | .num, .int k a, .int k' b => if k = k' then some (a == b) else none
    | .str, .str a, .str b => some (a == b)
    | .ptr, .nilp, .nilp => some true
    | .ptr, .nilp, .ptr _ => some false
    | .ptr, .ptr _, .nilp => some false
    | .ptr, .ptr a, .ptr b => if a.b == b.b && a.g == b.g then some (a.o == b.o) else none
    | .sl, .nils, .nils => some true
    | .sl, .nils, .sl .. => some false
    | .sl, .sl .., .nils => some false
    | .map, .nilm, .nilm => some true
    | .map, .nilm, .map _ => some false
    | .map, .map _, .nilm => some false
    | .fn, .nilf, .nilf => some true
    | .fn, .nilf, .fn .. => some false
    | .fn, .fn .., .nilf => some false
    | .ifc, .nili, .nili => some true
    | .ifc, .nili, .ifc .. => some false
    | .ifc, .ifc .., .nili => some false
    | .st fs, .agg xs, .agg ys => eqSt f fs xs ys
    | .arr n sz ag d, .agg xs, .agg ys => eqArr f d sz ag xs ys 0 n
    | _, _, _ => none
def eqSt : Nat → List (Nat × Option Nat × EqD) → List AV → List AV → Option Bool
  | 0, _, _, _ => none
  | f + 1, l, xs, ys => match l with
    | [] => some true
    | (off, sz, d) :: fs =>
      match part xs off sz, part ys off sz with
      | some a, some b => match eqv f d a b with
        | some true => eqSt f fs xs ys
        | r => r
      | _, _ => none
def eqArr : Nat → EqD → Nat → Bool → List AV → List AV → Nat → Nat → Option Bool
  | 0, _, _, _, _, _, _, _ => none
  | f + 1, d, sz, ag, xs, ys, i, n => match n with
    | 0 => some true
    | n + 1 =>
      match part xs (i * sz) (if ag then some sz else none), part ys (i * sz) (if ag then some sz else none) with
      | some a, some b => match eqv f d a b with
        | some true => eqArr f d sz ag xs ys (i + 1) n
        | r => r
      | _, _ => none
end


def bytesAV (s : List UInt8) : List AV := s.map fun b => .int .u8 b.toNat

def toBytes : List AV → Option (List UInt8)
  | [] => some []
  | .int .u8 n :: l => (toBytes l).map (UInt8.ofNat n.toNat :: ·)
  | _ => none

def asI : AV → Option Int
  | .int _ n => some n
  | _ => none

/-- low, high, most: bounds of a slice expression (most: what lies behind, if it is known). -/
def bounds (len : Nat) (cap : Option Nat) (lo hi mx : Option AV) : Option (Nat × Nat × Option Nat) :=
  let m : Option (Option Nat) := match mx with
    | none => some cap
    | some v => match asI v with
      | some i => if 0 ≤ i then (match cap with
        | some c => if i ≤ c then some (some i.toNat) else none
        | none => if i ≤ len then some (some i.toNat) else none) else none
      | none => none
  match m with
  | none => none
  | some m =>
    let h : Option Nat := match hi with
      | none => if mx.isSome then none else some len
      | some v => match asI v with
        | some i => if 0 ≤ i && i ≤ (m.getD len : Int) then some i.toNat else none
        | none => none
    match h with
    | none => none
    | some h =>
      match lo with
      | none => some (0, h, m)
      | some v => match asI v with
        | some i => if 0 ≤ i && i ≤ h then some (i.toNat, h, m) else none
        | none => none

def maxRow : Nat := 200000000000000
def capPos : Cp → Bool
  | .ex k => 0 < k
  | .op _ => true
/-- So many elements of so many bytes may be appended, however the row has grown. -/
def fits (k bytes : Nat) : Bool := k * bytes ≤ maxRow && bytes ≤ 1073741824
@[simp] theorem fits_one (k : Nat) : fits k 1 = decide (k ≤ maxRow) := by simp [fits]
theorem fits_ok {k b : Nat} (h : fits k b = true) : (k + k / 4 + 192) * b ≤ 281474976710656 := by
  have hm : maxRow = 200000000000000 := rfl
  simp only [fits, Bool.and_eq_true, decide_eq_true_eq] at h
  obtain ⟨h1, h2⟩ := h
  rw [hm] at h1
  have h3 : k / 4 * b ≤ 50000000000000 := by
    have h4 : 4 * (k / 4 * b) ≤ k * b := by rw [← Nat.mul_assoc]; exact Nat.mul_le_mul_right _ (by omega)
    omega
  rw [Nat.add_mul, Nat.add_mul]
  omega

def srcCells (h : H) (sz : Nat) : AV → Option (Nat × List AV)
  | .nils => some (0, [])
  | .sl a n _ => (h.ldn a (n * sz)).map (n, ·)
  | .str s => some (s.length, bytesAV s)
  | _ => none

def isStrV : AV → Bool
  | .str _ => true
  | _ => false

def srcLen : AV → Option Nat
  | .nils => some 0
  | .sl _ n _ => some n
  | .str s => some s.length
  | _ => none

def srcFirst (h : H) (sz k : Nat) : AV → Option (List AV)
  | .nils => some []
  | .sl a _ _ => h.ldn a (k * sz)
  | .str s => if sz == 1 then some (bytesAV (s.take k)) else none
  | _ => none

def append (h : H) (e sz bytes : Nat) (x y : AV) : Option Ans :=
  match srcCells h sz y with
  | none => none
  | some (m, new) =>
    match x with
    | .nils =>
      if m == 0 then some (.val .nils h)
      else if fits m bytes && m ≤ 9223372036854775807 && new.all AV.one then some (.val (.sl ⟨h.n, 0, 0⟩ m (.op sz)) (h.new (.cells 0 e new 0 false)))
      else none
    | .sl a n c =>
      if m == 0 then some (.val x h)
      else if !(fits (n + m) bytes && n + m ≤ 9223372036854775807 && new.all AV.one) then none
      else match c with
        | .ex k =>
          if k < n + m then match h.ldn a (n * sz) with
            | some old => some (.val (.sl ⟨h.n, 0, 0⟩ (n + m) (.op sz)) (h.new (.cells 0 e (old ++ new) 0 false)))
            | none => none
          else none
        | .op sz' =>
          match h.get a.b with
          | some (.cells g e' c' fz ro) =>
            if g == a.g && a.o == 0 && c'.length == n * sz && sz' == sz && e' == e && !ro && fz ≤ c'.length then
              some (.val (.sl ⟨a.b, g + 1, 0⟩ (n + m) (.op sz)) (h.set a.b (.cells (g + 1) e (c' ++ new) fz ro)))
            else none
          | _ => none
    | _ => none

def findKey (d : EqD) (k : AV) : List (AV × AV × Nat) → Nat → Option (Option (Nat × AV))
  | [], _ => some none
  | (k', v, _) :: es, i => match eqv 1 d k k' with
    | some true => some (some (i, v))
    | some false => findKey d k es (i + 1)
    | none => none

/-- Functions without a body, by number: 0: the place of a byte in a string. -/
def idxF : List UInt8 → UInt8 → Nat → Int
  | [], _, _ => -1
  | b :: l, c, n => if b == c then n else idxF l c (n + 1)
def xtRun : Nat → List AV → Option AV
  | 0, [.str s, .int .u8 c] => some (.int .i64 (idxF s (UInt8.ofNat c.toNat) 0))
  | _, _ => none

def iop (op : IOp) (ρ : IX → AV) (h : H) : Option Ans :=
  let ok (v : AV) : Option Ans := some (.val v h)
  let o (v : Option AV) : Option Ans := v.map (Ans.val · h)
  match op with
  | .mv x => ok (ρ x)
  | .pick c a b => match ρ c with
    | .bool true => ok (ρ a)
    | .bool false => ok (ρ b)
    | _ => none
  | .new e x => if (ρ x).cells.all AV.one then some (.val (.ptr ⟨h.n, 0, 0⟩) (h.new (.cells 0 e (ρ x).cells 0 false))) else none
  | .build z ps => (fillL z (ps.map fun p => (p.1, p.2.1, ρ p.2.2))).map fun cs => .val (.agg cs) h
  | .bsl e z n ps => match fillL z (ps.map fun p => (p.1, p.2.1, ρ p.2.2)) with
    | some cs => if cs.all AV.one then some (.val (.sl ⟨h.n, 0, 0⟩ n (.ex n)) (h.new (.cells 0 e cs 0 false))) else none
    | none => none
  | .ld ag x => match ρ x with
    | .ptr a => o (h.ldg a ag)
    | _ => none
  | .st n a v => match ρ a with
    | .ptr ad => if (ρ v).cells.length == n then (h.st ad (ρ v).cells).map fun h' => .val .undef h' else none
    | _ => none
  | .nilck x => match ρ x with
    | .nilp | .nili | .nilf => none
    | .fn (.method _) _ _ => none
    | v => ok v
  | .bin op x y => o (binop op (ρ x) (ρ y))
  | .eq d neg lit x y => match ρ x, ρ y with
    | .nili, .nili => if lit then (eqv 1000 d .nili .nili).map fun r => .val (.bool (r != neg)) h else none
    | a, b => (eqv 1000 d a b).map fun r => .val (.bool (r != neg)) h
  | .un op x => o (unop op (ρ x))
  | .cvI k x => (asI (ρ x)).map fun n => .val (.int k (k.wrap n)) h
  | .cvSB e x => match ρ x with
    | .str s => if s.length ≤ maxRow then some (.val (.sl ⟨h.n, 0, 0⟩ s.length (.op 1)) (h.new (.cells 0 e (bytesAV s) 0 false))) else none
    | _ => none
  | .cvBS x => match ρ x with
    | .nils => ok (.str [])
    | .sl a n _ => match h.ldn a n with
      | some cs => (toBytes cs).map fun s => .val (.str s) h
      | none => none
    | _ => none
  | .cvSS x => match ρ x with
    | .str s => ok (.str s)
    | _ => none
  | .cvIS x => (asI (ρ x)).map fun n => .val (.str (Utf8.encode n).toList) h
  | .cvBB x => match ρ x with
    | .sl a n c => match h.get a.b with
      | some (.cells g _ _ fz ro) => if g == a.g && !ro && fz == 0 && capPos c then ok (.sl a n c) else none
      | _ => none
    | _ => none
  | .mkI t x => ok (.ifc t (ρ x))
  | .mkF f a b => ok (.fn f (a.map ρ) (b.map ρ))
  | .mkM => some (.val (.map h.n) (h.new (.map [] 0)))
  | .mkS e z bytes l c => match asI (ρ l), asI (ρ c) with
    | some l, some c =>
      if 0 ≤ l && l ≤ c && bytes * c ≤ maxRow && c ≤ 9223372036854775807 then
        let n := l.toNat
        some (.val (.sl ⟨h.n, 0, 0⟩ n (if l == c then .ex n else .op z.length)) (h.new (.cells 0 e ((List.replicate n z).flatten) 0 false)))
      else none
    | _, _ => none
  | .slS x lo hi => match ρ x with
    | .str s => match bounds s.length (some s.length) (lo.map ρ) (hi.map ρ) none with
      | some (l, hh, _) => ok (.str ((s.take hh).drop l))
      | none => none
    | _ => none
  | .slL sz x lo hi mx => match ρ x with
    | .nils => match bounds 0 (some 0) (lo.map ρ) (hi.map ρ) (mx.map ρ) with
      | some _ => ok .nils
      | none => none
    | .sl a n c => match bounds n (match c with | .ex k => some k | .op _ => none) (lo.map ρ) (hi.map ρ) (mx.map ρ) with
      | some (l, hh, some m) =>
        if (match c with | .ex _ => true | .op e => e == sz && (0 < n || a.o == 0)) then ok (.sl (if m == l then a else ⟨a.b, a.g, a.o + l * sz⟩) (hh - l) (.ex (m - l))) else none
      | some (l, hh, none) => match c with
        | .op e => if e == sz then ok (.sl ⟨a.b, a.g, a.o + l * sz⟩ (hh - l) (.op e)) else none
        | _ => none
      | none => none
    | _ => none
  | .slA n sz x lo hi mx => match ρ x with
    | .ptr a => match bounds n (some n) (lo.map ρ) (hi.map ρ) (mx.map ρ) with
      | some (l, hh, some m) => ok (.sl (if m == l then a else ⟨a.b, a.g, a.o + l * sz⟩) (hh - l) (.ex (m - l)))
      | _ => none
    | _ => none
  | .fa off x => match ρ x with
    | .ptr a => ok (.ptr ⟨a.b, a.g, a.o + off⟩)
    | _ => none
  | .fd off sz x => match ρ x with
    | .agg cs => o (part cs off sz)
    | _ => none
  | .ia sz x i => match ρ x, asI (ρ i) with
    | .sl a n _, some i => if 0 ≤ i && i < n then ok (.ptr ⟨a.b, a.g, a.o + i.toNat * sz⟩) else none
    | _, _ => none
  | .iaA n sz x i => match ρ x, asI (ρ i) with
    | .ptr a, some i => if 0 ≤ i && i < n then ok (.ptr ⟨a.b, a.g, a.o + i.toNat * sz⟩) else none
    | _, _ => none
  | .ixS x i => match ρ x, asI (ρ i) with
    | .str s, some i => if 0 ≤ i then (getL s i.toNat).map fun b => .val (.int .u8 b.toNat) h else none
    | _, _ => none
  | .ixA n sz ag x i => match ρ x, asI (ρ i) with
    | .agg cs, some i => if 0 ≤ i && i < n then o (part cs (i.toNat * sz) (if ag then some sz else none)) else none
    | _, _ => none
  | .ext x i => match ρ x with
    | .tup vs => o (getL vs i)
    | _ => none
  | .rng x => match ρ x with
    | .str s => some (.val (.ptr ⟨h.n, 0, 0⟩) (h.new (.iter s 0)))
    | _ => none
  | .next x => match ρ x with
    | .ptr ⟨b, 0, 0⟩ => match h.get b with
      | some (.iter s pos) =>
        if pos < s.length then
          let (c, w) := Utf8.decode ⟨s.toArray⟩ pos
          some (.val (.tup [.bool true, .int .i64 pos, .int .i32 c]) (h.set b (.iter s (pos + w))))
        else ok (.tup [.bool false])
      | _ => none
    | _ => none
  | .sap n x => match ρ x with
    | .nils => if n == 0 then ok .nilp else none
    | .sl a m _ => if n ≤ m && 0 < n then ok (.ptr a) else none
    | _ => none
  | .call f args => some (.call f (args.map ρ))
  | .callv f args => match ρ f with
    | .fn (.func f) first captured => some (.call f (first ++ args.map ρ ++ captured))
    | _ => none
  | .app e sz bytes st x y => if isStrV (ρ y) == st then append h e sz bytes (ρ x) (ρ y) else none
  | .len st x => match ρ x with
    | .str s => if st then ok (.int .i64 s.length) else none
    | .nils => if st then none else ok (.int .i64 0)
    | .sl _ n _ => if st then none else ok (.int .i64 n)
    | _ => none
  | .copy sz x y => match ρ x, srcLen (ρ y) with
    | .nils, some _ => ok (.int .i64 0)
    | .sl a n _, some m => match srcFirst h sz (Nat.min m n) (ρ y) with
      | some cs => (h.st a cs).map fun h' => .val (.int .i64 (Nat.min m n : Nat)) h'
      | none => none
    | _, _ => none
  | .min x y => match ρ x, ρ y with
    | .int k a, .int _ b => ok (.int k (if b < a then b else a))
    | _, _ => none
  | .max x y => match ρ x, ρ y with
    | .int k a, .int _ b => ok (.int k (if b > a then b else a))
    | _, _ => none
  | .look d z okq x i => match ρ x with
    | .nilm => ok (if okq then .tup [z, .bool false] else z)
    | .map r => match h.get r with
      | some (.map es _) => match findKey d (ρ i) es 0 with
        | some (some (_, v)) => ok (if okq then .tup [v, .bool true] else v)
        | some none => ok (if okq then .tup [z, .bool false] else z)
        | none => none
      | _ => none
    | _ => none
  | .upd d x k v => match ρ x with
    | .map r => match h.get r with
      | some (.map es clock) => match findKey d (ρ k) es 0 with
        | some (some (i, _)) => match getL es i with
          | some (_, _, born) => some (.val .undef (h.set r (.map (setL es i (ρ k, ρ v, born)) clock)))
          | none => none
        | some none => some (.val .undef (h.set r (.map (es ++ [(ρ k, ρ v, clock)]) (clock + 1))))
        | none => none
      | _ => none
    | _ => none
  | .fail => none
  | .xt k args => o (xtRun k (args.map ρ))
  | .mlen x => match ρ x with
    | .nilm => ok (.int .i64 0)
    | .map r => match h.get r with
      | some (.map es _) => ok (.int .i64 es.length)
      | _ => none
    | _ => none

/-! ### Code -/

inductive Ex where
  | normal
  | exit (id : Nat)
  | goto (l : Nat)
  | ret
  deriving DecidableEq, Repr, Inhabited

def put (ts : List AV) (d : Option Nat) (v : AV) : List AV :=
  match d with
  | none => ts
  | some d => setL ts d v

def wanted (g : Option (Nat × Bool)) (ts : List AV) : Bool :=
  match g with
  | none => true
  | some (t, w) => match getL ts t with
    | some (.bool b) => b == w
    | _ => false

abbrev CallF := FuncId → List AV → H → Option (AV × H)

def oneOp (cf : CallF) (op : IOp) (ts : List AV) (h : H) : Option (AV × H) :=
  match iop op (ev ts) h with
  | some (.val v h') => some (v, h')
  | some (.call f args) => cf f args h
  | none => none

def runOps (cf : CallF) : List IOper → List AV → H → Option (List AV × H)
  | [], ts, h => some (ts, h)
  | o :: os, ts, h =>
    if wanted o.guard ts then
      match oneOp cf o.op ts h with
      | some (v, h') => runOps cf os (put ts o.dst v) h'
      | none => none
    else runOps cf os (put ts o.dst .undef) h

/-- The label's rest of a code. -/
def IC.find : IC → Nat → Option IC
  | .seq a b, l => match a.find l with
    | some r => some (.seq r b)
    | none => b.find l
  | .label l', l => if l' == l then some .skip else none
  | _, _ => none

def rounds {S : Type} (f : S → Option (Ex × S)) : Nat → S → Option (Ex × S)
  | 0, _ => none
  | n + 1, s => match f s with
    | some (.normal, s') => rounds f n s'
    | r => r

abbrev St := List AV × H

/-! A region whose order is drawn: it is run in the text's order; each reader that may stand elsewhere must read the same there. -/

mutual
def AV.same : AV → AV → Bool
  | .bool a, .bool b => a == b
  | .int k a, .int k' b => k == k' && a == b
  | .str a, .str b => a == b
  | .nilp, .nilp => true
  | .ptr a, .ptr b => a == b
  | .nils, .nils => true
  | .sl a n c, .sl b m d => a == b && n == m && c == d
  | .nilm, .nilm => true
  | .map a, .map b => a == b
  | .nilf, .nilf => true
  | .fn f a b, .fn g c d => f == g && sames a c && sames b d
  | .nili, .nili => true
  | .ifc t a, .ifc u b => t == u && AV.same a b
  | .agg a, .agg b => sames a b
  | .tup a, .tup b => sames a b
  | .any, .any => true
  | _, _ => false
def sames : List AV → List AV → Bool
  | [], [] => true
  | a :: x, b :: y => AV.same a b && sames x y
  | _, _ => false
end

/-- A reader, its operands laid in. -/
def rdOp (ρ : IX → AV) : IOp → Option IOp
  | .ld ag x => some (.ld ag (.c (ρ x)))
  | .cvBS x => some (.cvBS (.c (ρ x)))
  | .mlen x => some (.mlen (.c (ρ x)))
  | .look p z ok x i => some (.look p z ok (.c (ρ x)) (.c (ρ i)))
  | _ => none

def readsAs (op : IOp) (v : AV) (h : H) : Bool :=
  match iop op (ev []) h with
  | some (.val u _) => AV.same u v
  | _ => false

/-- Readers that may still stand further behind: (reader, value, place). -/
abbrev Pend := List (IOp × AV × Nat)

def Pend.holds (l : Pend) (h : H) : Bool := l.all fun p => readsAs p.1 p.2.1 h

def Pend.add (l : Pend) (ts : List AV) (o : DOper) (v : AV) : Pend :=
  match rdOp (ev ts) o.op with
  | some r => (r, v, o.id) :: l
  | none => l

/-- The operations in one order; at each act, and at the end, each reader that may stand there reads what it read. -/
def runDraw (cf : CallF) : List DOper → List AV → H → Pend → Option (List AV × H)
  | [], ts, h, pend => if pend.holds h then some (ts, h) else none
  | o :: os, ts, h, pend =>
    if o.act then
      if pend.holds h then
        if wanted o.guard ts then
          match oneOp cf o.op ts h with
          | some (v, h') => runDraw cf os (put ts o.dst v) h' (pend.filter fun p => !o.mask.testBit p.2.2)
          | none => none
        else runDraw cf os (put ts o.dst .undef) h (pend.filter fun p => !o.mask.testBit p.2.2)
      else none
    else
      if wanted o.guard ts then
        match oneOp cf o.op ts h with
        | some (v, h') => runDraw cf os (put ts o.dst v) h' (pend.add ts o v)
        | none => none
      else runDraw cf os (put ts o.dst .undef) h pend

/-- Code: 'cf' calls, 'rc' runs a scope's rest behind a jump. -/
def exec (cf : CallF) (rc : IC → St → Option (Ex × St)) (fuel : Nat) : IC → St → Option (Ex × St)
  | .skip, s => some (.normal, s)
  | .label _, s => some (.normal, s)
  | .region ops, s => (runOps cf ops s.1 s.2).map (Ex.normal, ·)
  | .draw ops, s => (runDraw cf ops s.1 s.2 []).map (Ex.normal, ·)
  | .seq a b, s => match exec cf rc fuel a s with
    | some (.normal, s') => exec cf rc fuel b s'
    | r => r
  | .cond x a b, s => match ev s.1 x with
    | .bool true => exec cf rc fuel a s
    | .bool false => exec cf rc fuel b s
    | _ => none
  | .block id a, s => match exec cf rc fuel a s with
    | some (.exit i, s') => if i == id then some (.normal, s') else some (.exit i, s')
    | r => r
  | .loop a, s => rounds (exec cf rc fuel a) fuel s
  | .exit id, s => some (.exit id, s)
  | .ret, s => some (.ret, s)
  | .scope a, s => match exec cf rc fuel a s with
    | some (.goto l, s') => match a.find l with
      | some r => rc (.inS a r) s'
      | none => some (.goto l, s')
    | r => r
  | .inS a b, s => match exec cf rc fuel b s with
    | some (.goto l, s') => match a.find l with
      | some r => rc (.inS a r) s'
      | none => some (.goto l, s')
    | r => r
  | .goto l, s => some (.goto l, s)

def resOf (h : H) (ts : List AV) : List (Nat × Option (Option Nat)) → Option (List AV)
  | [] => some []
  | (t, none) :: r => (resOf h ts r).map ((getL ts t).getD .undef :: ·)
  | (t, some ag) :: r => match iop (.ld ag (.t t)) (ev ts) h with
    | some (.val v _) => (resOf h ts r).map (v :: ·)
    | _ => none

def retV (h : H) (ts : List AV) (rs : List (Nat × Option (Option Nat))) : Option AV :=
  match resOf h ts rs with
  | some [v] => some v
  | some vs => some (.tup vs)
  | none => none

structure Mach where
  call : CallF
  code : IC → St → Option (Ex × St)

def Mach.none : Mach := ⟨fun _ _ _ => Option.none, fun _ _ => Option.none⟩

abbrev FTab := FuncId → Option IFunc

def callStep (F : FTab) (n : Nat) (m : Mach) : CallF := fun f args h =>
  match F f with
  | Option.none => Option.none
  | some fn =>
    if fn.known then (match fn.nat with | some g => g args h | Option.none => if args.isEmpty then some (.bool true, h) else Option.none) else
    match exec m.call m.code n fn.body (args ++ List.replicate (fn.ntmps - args.length) .undef, h) with
    | some (.normal, s) => (retV s.2 s.1 fn.results).map (·, s.2)
    | some (.ret, s) => (retV s.2 s.1 fn.results).map (·, s.2)
    | _ => Option.none

def mach (F : FTab) : Nat → Mach
  | 0 => .none
  | n + 1 => ⟨callStep F n (mach F n), exec (mach F n).call (mach F n).code n⟩

end Go.Det
