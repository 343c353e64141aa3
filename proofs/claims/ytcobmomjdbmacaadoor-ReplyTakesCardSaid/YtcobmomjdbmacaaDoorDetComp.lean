/- How a function of the given program is turned into the deterministic machine's form; a function without an equal there is turned into none. -/
import Derived.Test.YtcobmomjdbmacaaDoorDetCore
set_option linter.unusedVariables false
set_option linter.unusedSimpArgs false
set_option linter.unusedSectionVars false
namespace Go.Det

mutual
def ofVal : Nat → Value → Option AV
  | 0, _ => none
  | n + 1, v => match v with
    | .bool b => some (.bool b)
    | .int k x => some (.int k x)
    | .string s => some (.str s.data.toList)
    | .pointer none => some .nilp
    | .slice none 0 0 => some .nils
    | .map none => some .nilm
    | .func f a b => match ofVals n a.toList, ofVals n b.toList with
      | some a, some b => match f with
        | .yield _ => none
        | f => some (.fn f a b)
      | _, _ => none
    | .nilFunc => some .nilf
    | .nilIface => some .nili
    | .iface t v => (ofVal n v).map (.ifc t)
    | .agg cs => (ofVals n cs.toList).map .agg
    | .tuple vs => (ofVals n vs.toList).map .tup
    | _ => none
def ofVals : Nat → List Value → Option (List AV)
  | 0, _ => none
  | _ + 1, [] => some []
  | n + 1, v :: l => match ofVal n v, ofVals n l with
    | some a, some r => some (a :: r)
    | _, _ => none
end

def big : Nat := 100000

def ofOpd (P : Program) : Operand → Option IX
  | .tmp t => some (.t t)
  | .const v => (ofVal big v).map .c
  | .global _ => none
  | .func f => some (.c (.fn (.func f) [] []))

def ofOpds (P : Program) : List Operand → Option (List IX)
  | [] => some []
  | x :: l => match ofOpd P x, ofOpds P l with
    | some a, some r => some (a :: r)
    | _, _ => none

def ofOpt (P : Program) : Option Operand → Option (Option IX)
  | none => some none
  | some x => (ofOpd P x).map some

def aggT (P : Program) (t : TypeId) : Option (Option Nat) :=
  match P.underlying t, P.info? t with
  | some (.struct _), some i => some (some i.size)
  | some (.array _ _), some i => some (some i.size)
  | some _, some _ => some none
  | _, _ => none

def sizeT (P : Program) (t : TypeId) : Option Nat := (P.info? t).map (·.size)

def zeroT (P : Program) (t : TypeId) : Option AV :=
  match P.info? t with
  | some i => i.zero.bind (ofVal big)
  | none => none

def eqdFs (P : Program) (r : TypeId → Option EqD) : List Field → Option (List (Nat × Option Nat × EqD))
  | [] => some []
  | f :: l => if f.name == "_" then eqdFs P r l else match aggT P f.type, r f.type, eqdFs P r l with
    | some a, some d, some q => some ((f.offset, a, d) :: q)
    | _, _, _ => none

def eqdOf (P : Program) : Nat → TypeId → Option EqD
  | 0, _ => none
  | n + 1, t => match P.underlying t with
    | some .bool => some .bo
    | some (.int _) => some .num
    | some .string => some .str
    | some (.pointer e) => match sizeT P e with
      | some (_ + 1) => some .ptr
      | _ => none
    | some (.slice _) => some .sl
    | some (.map _ _) => some .map
    | some (.func _ _ _) => some .fn
    | some (.interface _) => some .ifc
    | some (.struct fs) =>
      if P.stoodInHeld t then none else
      (eqdFs P (eqdOf P n) fs.toList).map .st
    | some (.array len e) => match sizeT P e, aggT P e, eqdOf P n e with
      | some sz, some ag, some d => some (.arr len sz ag.isSome d)
      | _, _, _ => none
    | _ => none

def partsOf (P : Program) (places : Nat → Option (Nat × Nat)) : List (Nat × Operand) → Option (List (Nat × Nat × IX))
  | [] => some []
  | (i, x) :: l => match places i, ofOpd P x, partsOf P places l with
    | some (off, sz), some x, some r => some ((off, sz, x) :: r)
    | _, _, _ => none

def srcOk : TypeDesc → Nat → Bool
  | .slice _, _ => true
  | .string, sz => sz == 1
  | _, _ => false

def isStrD : TypeDesc → Bool
  | .string => true
  | _ => false

/-- A function without a body that the machine knows. -/
def extOf (fn : Func) (args : List IX) : Option IOp :=
  if fn.body.isNone && fn.name == "internal/bytealg.IndexByteString" && fn.origin == "" then some (.xt 0 args) else none

def compCall (P : Program) (c : Call) (ty : TypeId) : Option IOp :=
  match ofOpds P c.args.toList with
  | none => none
  | some args =>
    match c.callee with
    | .value (.func f) => match P.funcs[f]? with
      | some fn => if fn.body.isSome && fn.name != "runtime.NumGoroutine" then some (.call f args) else extOf fn args
      | none => none
    | .value f => (ofOpd P f).map fun f => .callv f args
    | .invoke _ _ => none
    | .builtin b =>
      match b, args, c.argTypes.toList with
      | .append, [x, y], [t, u] =>
        match P.underlying t, P.underlying u with
        | some (.slice e), some d =>
          match P.info? e with
          | some i => match i.zero.bind (ofVal big) with
            | some z => if z.cells.length == i.size && 0 < i.size && srcOk d i.size then some (.app e i.size i.bytes (isStrD d) x y) else none
            | none => none
          | none => none
        | _, _ => none
      | .len, [x], [t] => match P.underlying t with
        | some .string => some (.len true x)
        | some (.slice _) => some (.len false x)
        | some (.array n _) => some (.mv (.c (.int .i64 n)))
        | _ => none
      | .copy, [x, y], [t, _] => match P.underlying t with
        | some (.slice e) => (sizeT P e).map fun sz => .copy sz x y
        | _ => none
      | .min, [x, y], _ => some (.min x y)
      | .max, [x, y], _ => some (.max x y)
      | _, _, _ => none

def aggDesc : Option TypeDesc → Bool
  | some (.struct _) => true
  | some (.array _ _) => true
  | _ => false

def isLit : Operand → Bool
  | .const _ => true
  | _ => false

def compOp (P : Program) (o : Op) (ty : TypeId) : Option IOp :=
  match o with
  | .move x | .assign x => (ofOpd P x).bind fun x => some (.mv x)
  | .pick c a b => (ofOpd P c).bind fun c => (ofOpd P a).bind fun a => (ofOpd P b).bind fun b => some (.pick c a b)
  | .alloc e => (zeroT P e).map fun z => .new e (.c z)
  | .box e v => (ofOpd P v).bind fun v => some (.new e v)
  | .build t ps => match P.underlying t, zeroT P t with
    | some (.struct fs), some z =>
      if fs.toList.all fun f => (sizeT P f.type).isSome then
      (partsOf P (fun i => match fs[i]? with
        | some f => (sizeT P f.type).map fun s => (f.offset, s)
        | none => none) ps.toList).map fun ps => .build z.cells ps
      else none
    | some (.array _ e), some z => match sizeT P e with
      | some s => (partsOf P (fun i => some (i * s, s)) ps.toList).map fun ps => .build z.cells ps
      | none => none
    | _, _ => none
  | .buildSlice t n ps => match P.underlying t with
    | some (.slice e) => match sizeT P e, zeroT P e with
      | some s, some z =>
        if n * s ≤ 16777216 && z.cells.length == s then (partsOf P (fun i => some (i * s, s)) ps.toList).map fun ps => .bsl e (List.replicate n z.cells).flatten n ps else none
      | _, _ => none
    | _ => none
  | .load t a => (ofOpd P a).bind fun a => (aggT P t).map fun g => .ld g a
  | .store t a v => (ofOpd P a).bind fun a => (ofOpd P v).bind fun v => (sizeT P t).map fun n => .st n a v
  | .nilCheck x => (ofOpd P x).bind fun x => some (.nilck x)
  | .binOp op t x y _ => match P.underlying t with
    | some (.int _) => (ofOpd P x).bind fun x => (ofOpd P y).bind fun y => some (.bin op x y)
    | some .string => (ofOpd P x).bind fun x => (ofOpd P y).bind fun y => some (.bin op x y)
    | d => if aggDesc d && P.eqGuardType P.depth t then none else match op with
      | .eql => (ofOpd P x).bind fun a => (ofOpd P y).bind fun b => (eqdOf P 20 t).map fun d => .eq d false (isLit x || isLit y) a b
      | .neq => (ofOpd P x).bind fun a => (ofOpd P y).bind fun b => (eqdOf P 20 t).map fun d => .eq d true (isLit x || isLit y) a b
      | _ => none
  | .unOp op _ x => (ofOpd P x).bind fun x => some (.un op x)
  | .convert s d x => match P.underlying s, P.underlying d with
    | some (.int _), some (.int k) => (ofOpd P x).bind fun x => some (.cvI k x)
    | some (.int _), some .string => (ofOpd P x).bind fun x => some (.cvIS x)
    | some .string, some .string => (ofOpd P x).bind fun x => some (.cvSS x)
    | some .string, some (.slice e) => match P.underlying e with
      | some (.int .u8) => (ofOpd P x).bind fun x => some (.cvSB e x)
      | _ => none
    | some (.slice e), some .string => match P.underlying e with
      | some (.int .u8) => (ofOpd P x).bind fun x => some (.cvBS x)
      | _ => none
    | some (.slice _), some (.slice e) => match P.underlying e with
      | some (.int .u8) => if s == d then (ofOpd P x).bind fun x => some (.cvBB x) else none
      | _ => none
    | _, _ => none
  | .sliceToArrayPointer d x => match P.underlying d with
    | some (.array n _) => (ofOpd P x).bind fun x => some (.sap n x)
    | _ => none
  | .makeInterface t x => match P.underlying t with
    | some (.interface _) => none
    | some _ => (ofOpd P x).bind fun x => some (.mkI t x)
    | none => none
  | .makeFunc f a c => match f with
    | .yield _ => none
    | f => (ofOpds P a.toList).bind fun a => (ofOpds P c.toList).map fun c => .mkF f a c
  | .makeMap t none => some .mkM
  | .makeSlice t l c => match P.underlying t with
    | some (.slice e) => match P.info? e, zeroT P e with
      | some i, some z => if z.cells.length == i.size && 0 < i.size then (ofOpd P l).bind fun l => (ofOpd P c).bind fun c => some (.mkS e z.cells i.bytes l c) else none
      | _, _ => none
    | _ => none
  | .slice t x lo hi mx => (ofOpd P x).bind fun x => (ofOpt P lo).bind fun lo => (ofOpt P hi).bind fun hi => (ofOpt P mx).bind fun mx =>
    match P.underlying t with
    | some .string => if mx.isNone then some (.slS x lo hi) else none
    | some (.slice e) => (sizeT P e).map fun s => .slL s x lo hi mx
    | some (.array n e) => (sizeT P e).map fun s => .slA n s x lo hi mx
    | some (.pointer arr) => match P.underlying arr with
      | some (.array n e) => (sizeT P e).map fun s => .slA n s x lo hi mx
      | _ => none
    | _ => none
  | .fieldAddr t x i => match P.underlying t with
    | some (.struct fs) => match fs[i]? with
      | some f => match sizeT P f.type with
        | some (_ + 1) => (ofOpd P x).bind fun x => some (.fa f.offset x)
        | _ => none
      | none => none
    | _ => none
  | .field t x i => match P.underlying t with
    | some (.struct fs) => match fs[i]? with
      | some f => (aggT P f.type).bind fun g => (ofOpd P x).bind fun x => some (.fd f.offset g x)
      | none => none
    | _ => none
  | .indexAddr t x i => match P.underlying t with
    | some (.slice e) => (sizeT P e).bind fun s => (ofOpd P x).bind fun x => (ofOpd P i).bind fun i => some (.ia s x i)
    | some (.array n e) => (sizeT P e).bind fun s => (ofOpd P x).bind fun x => (ofOpd P i).bind fun i => some (.iaA n s x i)
    | _ => none
  | .index t x i => match P.underlying t with
    | some .string => (ofOpd P x).bind fun x => (ofOpd P i).bind fun i => some (.ixS x i)
    | some (.array n e) => (sizeT P e).bind fun s => (aggT P e).bind fun g => (ofOpd P x).bind fun x => (ofOpd P i).bind fun i => some (.ixA n s g.isSome x i)
    | _ => none
  | .extract x i => (ofOpd P x).bind fun x => some (.ext x i)
  | .range t x => match P.underlying t with
    | some .string => (ofOpd P x).bind fun x => some (.rng x)
    | _ => none
  | .next x true => (ofOpd P x).bind fun x => some (.next x)
  | .lookup t x i ok => match P.underlying t with
    | some (.map k e) => match P.underlying k with
      | some .string => (zeroT P e).bind fun z => (ofOpd P x).bind fun x => (ofOpd P i).bind fun i => some (.look .str z ok x i)
      | some (.int _) => (zeroT P e).bind fun z => (ofOpd P x).bind fun x => (ofOpd P i).bind fun i => some (.look .num z ok x i)
      | _ => none
    | _ => none
  | .mapUpdate t m k v | .insert t m k v => match P.underlying t with
    | some (.map kt _) => match P.underlying kt with
      | some .string => (ofOpd P m).bind fun m => (ofOpd P k).bind fun k => (ofOpd P v).bind fun v => some (.upd .str m k v)
      | some (.int _) => (ofOpd P m).bind fun m => (ofOpd P k).bind fun k => (ofOpd P v).bind fun v => some (.upd .num m k v)
      | _ => none
    | _ => none
  | .call c => compCall P c ty
  | .panic _ => some .fail
  | _ => none

def compOper (P : Program) (ops : Array Oper) (o : Oper) : Option IOper :=
  match compOp P o.op o.type with
  | none => none
  | some op => match o.guard with
    | none => some ⟨o.dst, op, none⟩
    | some (j, w) => match (ops[j]?).bind (·.dst) with
      | some d => some ⟨o.dst, op, some (d, w)⟩
      | none => none

def compOpers (P : Program) (ops : Array Oper) : List Oper → Option (List IOper)
  | [] => some []
  | o :: l => match compOper P ops o, compOpers P ops l with
    | some a, some r => some (a :: r)
    | _, _ => none

/-- Operations that touch no memory; that make some; that read some. All others are acts. -/
def isPure : IOp → Bool
  | .mv _ | .pick .. | .build .. | .nilck _ | .bin .. | .eq .. | .un .. | .cvI .. | .cvSS _ | .cvIS _ | .mkI .. | .mkF .. | .slS .. | .slL .. | .slA .. | .fa .. | .fd .. | .ia .. | .iaA .. | .ixS .. | .ixA .. | .ext .. | .sap .. | .len .. | .min .. | .max .. => true
  | _ => false

def isAl : IOp → Bool
  | .new .. | .bsl .. | .mkS .. | .cvSB .. | .mkM | .rng _ => true
  | _ => false

def isRd : IOp → Bool
  | .ld .. | .cvBS _ | .look .. => true
  | _ => false

def isAct (x : IOp) : Bool := !(isPure x || isAl x || isRd x)

/-- The slots that an operation names. -/
def namesOf (ops : Array Oper) (o : Oper) : List Tmp :=
  (match o.guard with
    | some (j, _) => ((ops[j]?).bind (·.dst)).toList
    | none => []) ++ o.op.operands.toList.filterMap fun | .tmp t => some t | _ => none

/-- Those that stand ahead of an operation in every order, as the bits of a number. -/
def maskOf (acc : List Nat) (es : List Edge) : Nat :=
  es.foldl (fun s e => if Region.binds .any e then s ||| 2 ^ e.on ||| acc.getD e.on 0 else s) 0

def befL : List Oper → List Nat → List Nat
  | [], acc => acc
  | o :: l, acc => befL l (acc ++ [maskOf acc o.after.toList])

/-- One order: what is no act as early as it may stand. -/
def greedy (l : List (Nat × Bool × Nat)) : Nat → List Nat → Nat → List Nat
  | 0, _, _ => []
  | f + 1, todo, done =>
    let ready (j : Nat) : Bool := match l[j]? with
      | some (_, _, direct) => direct &&& done == direct
      | none => false
    match todo.find? fun j => ready j && (match l[j]? with | some (_, act, _) => !act | none => false) with
    | some j => j :: greedy l f (todo.filter (· != j)) (done ||| 2 ^ j)
    | none => match todo.find? ready with
      | some j => j :: greedy l f (todo.filter (· != j)) (done ||| 2 ^ j)
      | none => []

def directOf (o : Oper) : Nat := o.after.toList.foldl (fun s e => if Region.binds .any e then s ||| 2 ^ e.on else s) 0

def mkD (l : List IOper) (masks : List Nat) (j : Nat) : DOper := { l.getD j default with act := isAct (l.getD j default).op, id := j, mask := masks.getD j 0 }

/-- Every two places of the order. -/
def pairsOk (ops : Array Oper) (dl : List DOper) : Bool :=
  dl.zipIdx.all fun (x, p) => dl.zipIdx.all fun (y, q) =>
    -- another place is another operation
    (p == q || x.id != y.id) &&
    -- a slot that one writes and the other names, or writes
    (p == q || (match x.dst with
      | some d => !(y.dst == some d || (match ops[y.id]? with | some o => (namesOf ops o).contains d | none => true)) || y.mask.testBit x.id || x.mask.testBit y.id
      | none => true)) &&
    -- what stands ahead in every order does so in this one
    (!(p ≤ q) || !x.mask.testBit y.id) &&
    -- what stands behind an act does so in every order
    (!(p < q && x.act) || y.mask.testBit x.id)

def compDraw (P : Program) (ops : Array Oper) : Option (List DOper) :=
  match compOpers P ops ops.toList with
  | none => none
  | some l =>
    let masks := befL ops.toList []
    let ord := greedy ((ops.toList.zip l).map fun (o, x) => (0, isAct x.op, directOf o)) ops.size (List.range ops.size) 0
    let dl := ord.map (mkD l masks)
    if ord.length == ops.size && ord.all (· < ops.size) && (List.range ops.size).all (fun j => ord.contains j) && ops.toList.all (fun o => o.after.all fun e => !Region.binds .any e || e.on < ops.size) && pairsOk ops dl then some dl else none

def compCode (P : Program) : Code → Option IC
  | .skip => some .skip
  | .region _ ops false => (compOpers P ops ops.toList).map .region
  | .region _ ops true => (compDraw P ops).map .draw
  | .seq a b => match compCode P a, compCode P b with
    | some a, some b => some (.seq a b)
    | _, _ => none
  | .cond c a b => match ofOpd P c, compCode P a, compCode P b with
    | some c, some a, some b => some (.cond c a b)
    | _, _, _ => none
  | .block i a => (compCode P a).map (.block i)
  | .loop a => (compCode P a).map .loop
  | .exit i => some (.exit i)
  | .scope a => (compCode P a).map .scope
  | .label l => some (.label l)
  | .goto l => some (.goto l)
  | .ret => some .ret
  | _ => none

def compRes (P : Program) : List ResultVar → Option (List (Nat × Option (Option Nat)))
  | [] => some []
  | .tmp t :: l => (compRes P l).map ((t, none) :: ·)
  | .cell t ty :: l => match aggT P ty, compRes P l with
    | some g, some r => some ((t, some g) :: r)
    | _, _ => none

def compFunc (P : Program) (f : Func) : Option IFunc :=
  match f.body with
  | none => none
  | some c => match compCode P c, compRes P f.results.toList with
    | some c, some r => some { ntmps := f.ntmps, results := r, body := c, known := false }
    | _, _ => none

end Go.Det
