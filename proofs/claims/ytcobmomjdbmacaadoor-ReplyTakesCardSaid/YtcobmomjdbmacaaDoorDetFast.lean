/- The deterministic machine once more, laid out for the kernel's run: slots in a tree, values laid out in full. What it answers, the deterministic machine answers. -/
import Derived.Test.YtcobmomjdbmacaaDoorDetCore
set_option linter.unusedVariables false
set_option linter.unusedSimpArgs false
set_option linter.unusedSectionVars false
namespace Go.Det

/-! ### The same, each operation's text apart: for the kernel's run. -/

def k_mv (x : IX) (ρ : IX → AV) (h : H) : Option Ans :=
  let ok (v : AV) : Option Ans := some (.val v h)
  let o (v : Option AV) : Option Ans := v.map (Ans.val · h)
  ok (ρ x)
def k_pick (c : IX) (a : IX) (b : IX) (ρ : IX → AV) (h : H) : Option Ans :=
  let ok (v : AV) : Option Ans := some (.val v h)
  let o (v : Option AV) : Option Ans := v.map (Ans.val · h)
  match ρ c with
    | .bool true => ok (ρ a)
    | .bool false => ok (ρ b)
    | _ => none
def k_new (e : TypeId) (x : IX) (ρ : IX → AV) (h : H) : Option Ans :=
  let ok (v : AV) : Option Ans := some (.val v h)
  let o (v : Option AV) : Option Ans := v.map (Ans.val · h)
  if (ρ x).cells.all AV.one then some (.val (.ptr ⟨h.n, 0, 0⟩) (h.new (.cells 0 e (ρ x).cells 0 false))) else none
def k_build (z : List AV) (ps : List (Nat × Nat × IX)) (ρ : IX → AV) (h : H) : Option Ans :=
  let ok (v : AV) : Option Ans := some (.val v h)
  let o (v : Option AV) : Option Ans := v.map (Ans.val · h)
  (fillL z (ps.map fun p => (p.1, p.2.1, ρ p.2.2))).map fun cs => .val (.agg cs) h
def k_bsl (e : TypeId) (z : List AV) (n : Nat) (ps : List (Nat × Nat × IX)) (ρ : IX → AV) (h : H) : Option Ans :=
  let ok (v : AV) : Option Ans := some (.val v h)
  let o (v : Option AV) : Option Ans := v.map (Ans.val · h)
  match fillL z (ps.map fun p => (p.1, p.2.1, ρ p.2.2)) with
    | some cs => if cs.all AV.one then some (.val (.sl ⟨h.n, 0, 0⟩ n (.ex n)) (h.new (.cells 0 e cs 0 false))) else none
    | none => none
def k_ld (ag : Option Nat) (x : IX) (ρ : IX → AV) (h : H) : Option Ans :=
  let ok (v : AV) : Option Ans := some (.val v h)
  let o (v : Option AV) : Option Ans := v.map (Ans.val · h)
  match ρ x with
    | .ptr a => o (h.ldg a ag)
    | _ => none
def k_st (n : Nat) (a : IX) (v : IX) (ρ : IX → AV) (h : H) : Option Ans :=
  let ok (v : AV) : Option Ans := some (.val v h)
  let o (v : Option AV) : Option Ans := v.map (Ans.val · h)
  match ρ a with
    | .ptr ad => if (ρ v).cells.length == n then (h.st ad (ρ v).cells).map fun h' => .val .undef h' else none
    | _ => none
def k_nilck (x : IX) (ρ : IX → AV) (h : H) : Option Ans :=
  let ok (v : AV) : Option Ans := some (.val v h)
  let o (v : Option AV) : Option Ans := v.map (Ans.val · h)
  match ρ x with
    | .nilp | .nili | .nilf => none
    | .fn (.method _) _ _ => none
    | v => ok v
def k_bin (op : BinOp) (x : IX) (y : IX) (ρ : IX → AV) (h : H) : Option Ans :=
  let ok (v : AV) : Option Ans := some (.val v h)
  let o (v : Option AV) : Option Ans := v.map (Ans.val · h)
  o (binop op (ρ x) (ρ y))
def k_eq (d : EqD) (neg : Bool) (lit : Bool) (x : IX) (y : IX) (ρ : IX → AV) (h : H) : Option Ans :=
  let ok (v : AV) : Option Ans := some (.val v h)
  let o (v : Option AV) : Option Ans := v.map (Ans.val · h)
  match ρ x, ρ y with
    | .nili, .nili => if lit then (eqv 1000 d .nili .nili).map fun r => .val (.bool (r != neg)) h else none
    | a, b => (eqv 1000 d a b).map fun r => .val (.bool (r != neg)) h
def k_un (op : UnOp) (x : IX) (ρ : IX → AV) (h : H) : Option Ans :=
  let ok (v : AV) : Option Ans := some (.val v h)
  let o (v : Option AV) : Option Ans := v.map (Ans.val · h)
  o (unop op (ρ x))
def k_cvI (k : IntKind) (x : IX) (ρ : IX → AV) (h : H) : Option Ans :=
  let ok (v : AV) : Option Ans := some (.val v h)
  let o (v : Option AV) : Option Ans := v.map (Ans.val · h)
  (asI (ρ x)).map fun n => .val (.int k (k.wrap n)) h
def k_cvSB (e : TypeId) (x : IX) (ρ : IX → AV) (h : H) : Option Ans :=
  let ok (v : AV) : Option Ans := some (.val v h)
  let o (v : Option AV) : Option Ans := v.map (Ans.val · h)
  match ρ x with
    | .str s => if s.length ≤ maxRow then some (.val (.sl ⟨h.n, 0, 0⟩ s.length (.op 1)) (h.new (.cells 0 e (bytesAV s) 0 false))) else none
    | _ => none
def k_cvBS (x : IX) (ρ : IX → AV) (h : H) : Option Ans :=
  let ok (v : AV) : Option Ans := some (.val v h)
  let o (v : Option AV) : Option Ans := v.map (Ans.val · h)
  match ρ x with
    | .nils => ok (.str [])
    | .sl a n _ => match h.ldn a n with
      | some cs => (toBytes cs).map fun s => .val (.str s) h
      | none => none
    | _ => none
def k_cvSS (x : IX) (ρ : IX → AV) (h : H) : Option Ans :=
  let ok (v : AV) : Option Ans := some (.val v h)
  let o (v : Option AV) : Option Ans := v.map (Ans.val · h)
  match ρ x with
    | .str s => ok (.str s)
    | _ => none
def k_cvIS (x : IX) (ρ : IX → AV) (h : H) : Option Ans :=
  let ok (v : AV) : Option Ans := some (.val v h)
  let o (v : Option AV) : Option Ans := v.map (Ans.val · h)
  (asI (ρ x)).map fun n => .val (.str (Utf8.encode n).toList) h
def k_cvBB (x : IX) (ρ : IX → AV) (h : H) : Option Ans :=
  let ok (v : AV) : Option Ans := some (.val v h)
  let o (v : Option AV) : Option Ans := v.map (Ans.val · h)
  match ρ x with
    | .sl a n c => match h.get a.b with
      | some (.cells g _ _ fz ro) => if g == a.g && !ro && fz == 0 && capPos c then ok (.sl a n c) else none
      | _ => none
    | _ => none
def k_mkI (t : TypeId) (x : IX) (ρ : IX → AV) (h : H) : Option Ans :=
  let ok (v : AV) : Option Ans := some (.val v h)
  let o (v : Option AV) : Option Ans := v.map (Ans.val · h)
  ok (.ifc t (ρ x))
def k_mkF (f : Fn) (a : List IX) (b : List IX) (ρ : IX → AV) (h : H) : Option Ans :=
  let ok (v : AV) : Option Ans := some (.val v h)
  let o (v : Option AV) : Option Ans := v.map (Ans.val · h)
  ok (.fn f (a.map ρ) (b.map ρ))
def k_mkM (ρ : IX → AV) (h : H) : Option Ans :=
  let ok (v : AV) : Option Ans := some (.val v h)
  let o (v : Option AV) : Option Ans := v.map (Ans.val · h)
  some (.val (.map h.n) (h.new (.map [] 0)))
def k_mkS (e : TypeId) (z : List AV) (bytes : Nat) (l : IX) (c : IX) (ρ : IX → AV) (h : H) : Option Ans :=
  let ok (v : AV) : Option Ans := some (.val v h)
  let o (v : Option AV) : Option Ans := v.map (Ans.val · h)
  match asI (ρ l), asI (ρ c) with
    | some l, some c =>
      if 0 ≤ l && l ≤ c && bytes * c ≤ maxRow && c ≤ 9223372036854775807 then
        let n := l.toNat
        some (.val (.sl ⟨h.n, 0, 0⟩ n (if l == c then .ex n else .op z.length)) (h.new (.cells 0 e ((List.replicate n z).flatten) 0 false)))
      else none
    | _, _ => none
def k_slS (x : IX) (lo : Option IX) (hi : Option IX) (ρ : IX → AV) (h : H) : Option Ans :=
  let ok (v : AV) : Option Ans := some (.val v h)
  let o (v : Option AV) : Option Ans := v.map (Ans.val · h)
  match ρ x with
    | .str s => match bounds s.length (some s.length) (lo.map ρ) (hi.map ρ) none with
      | some (l, hh, _) => ok (.str ((s.take hh).drop l))
      | none => none
    | _ => none
def k_slL (sz : Nat) (x : IX) (lo : Option IX) (hi : Option IX) (mx : Option IX) (ρ : IX → AV) (h : H) : Option Ans :=
  let ok (v : AV) : Option Ans := some (.val v h)
  let o (v : Option AV) : Option Ans := v.map (Ans.val · h)
  match ρ x with
    | .nils => match bounds 0 (some 0) (lo.map ρ) (hi.map ρ) (mx.map ρ) with
      | some _ => ok .nils
      | none => none
    | .sl a n c => match bounds n (match c with | .ex k => some k | .op _ => none) (lo.map ρ) (hi.map ρ) (mx.map ρ) with
      | some (l, hh, some m) =>
        if (match c with | .ex _ => true | .op e => e == sz && (0 < n || a.o == 0)) then ok (.sl (if m == l then a else ⟨a.b, a.g, a.o + l * sz⟩) (hh - l) (.ex (m - l))) else none
      | some (l, hh, none) => match c with
        | .op e => if e == sz then ok (.sl ⟨a.b, a.g, a.o + l * sz⟩ (hh - l) (.op e)) else none
        | _ => none
      | none => none
    | _ => none
def k_slA (n : Nat) (sz : Nat) (x : IX) (lo : Option IX) (hi : Option IX) (mx : Option IX) (ρ : IX → AV) (h : H) : Option Ans :=
  let ok (v : AV) : Option Ans := some (.val v h)
  let o (v : Option AV) : Option Ans := v.map (Ans.val · h)
  match ρ x with
    | .ptr a => match bounds n (some n) (lo.map ρ) (hi.map ρ) (mx.map ρ) with
      | some (l, hh, some m) => ok (.sl (if m == l then a else ⟨a.b, a.g, a.o + l * sz⟩) (hh - l) (.ex (m - l)))
      | _ => none
    | _ => none
def k_fa (off : Nat) (x : IX) (ρ : IX → AV) (h : H) : Option Ans :=
  let ok (v : AV) : Option Ans := some (.val v h)
  let o (v : Option AV) : Option Ans := v.map (Ans.val · h)
  match ρ x with
    | .ptr a => ok (.ptr ⟨a.b, a.g, a.o + off⟩)
    | _ => none
def k_fd (off : Nat) (sz : Option Nat) (x : IX) (ρ : IX → AV) (h : H) : Option Ans :=
  let ok (v : AV) : Option Ans := some (.val v h)
  let o (v : Option AV) : Option Ans := v.map (Ans.val · h)
  match ρ x with
    | .agg cs => o (part cs off sz)
    | _ => none
def k_ia (sz : Nat) (x : IX) (i : IX) (ρ : IX → AV) (h : H) : Option Ans :=
  let ok (v : AV) : Option Ans := some (.val v h)
  let o (v : Option AV) : Option Ans := v.map (Ans.val · h)
  match ρ x, asI (ρ i) with
    | .sl a n _, some i => if 0 ≤ i && i < n then ok (.ptr ⟨a.b, a.g, a.o + i.toNat * sz⟩) else none
    | _, _ => none
def k_iaA (n : Nat) (sz : Nat) (x : IX) (i : IX) (ρ : IX → AV) (h : H) : Option Ans :=
  let ok (v : AV) : Option Ans := some (.val v h)
  let o (v : Option AV) : Option Ans := v.map (Ans.val · h)
  match ρ x, asI (ρ i) with
    | .ptr a, some i => if 0 ≤ i && i < n then ok (.ptr ⟨a.b, a.g, a.o + i.toNat * sz⟩) else none
    | _, _ => none
def k_ixS (x : IX) (i : IX) (ρ : IX → AV) (h : H) : Option Ans :=
  let ok (v : AV) : Option Ans := some (.val v h)
  let o (v : Option AV) : Option Ans := v.map (Ans.val · h)
  match ρ x, asI (ρ i) with
    | .str s, some i => if 0 ≤ i then (getL s i.toNat).map fun b => .val (.int .u8 b.toNat) h else none
    | _, _ => none
def k_ixA (n : Nat) (sz : Nat) (ag : Bool) (x : IX) (i : IX) (ρ : IX → AV) (h : H) : Option Ans :=
  let ok (v : AV) : Option Ans := some (.val v h)
  let o (v : Option AV) : Option Ans := v.map (Ans.val · h)
  match ρ x, asI (ρ i) with
    | .agg cs, some i => if 0 ≤ i && i < n then o (part cs (i.toNat * sz) (if ag then some sz else none)) else none
    | _, _ => none
def k_ext (x : IX) (i : Nat) (ρ : IX → AV) (h : H) : Option Ans :=
  let ok (v : AV) : Option Ans := some (.val v h)
  let o (v : Option AV) : Option Ans := v.map (Ans.val · h)
  match ρ x with
    | .tup vs => o (getL vs i)
    | _ => none
def k_rng (x : IX) (ρ : IX → AV) (h : H) : Option Ans :=
  let ok (v : AV) : Option Ans := some (.val v h)
  let o (v : Option AV) : Option Ans := v.map (Ans.val · h)
  match ρ x with
    | .str s => some (.val (.ptr ⟨h.n, 0, 0⟩) (h.new (.iter s 0)))
    | _ => none
def k_next (x : IX) (ρ : IX → AV) (h : H) : Option Ans :=
  let ok (v : AV) : Option Ans := some (.val v h)
  let o (v : Option AV) : Option Ans := v.map (Ans.val · h)
  match ρ x with
    | .ptr ⟨b, 0, 0⟩ => match h.get b with
      | some (.iter s pos) =>
        if pos < s.length then
          let (c, w) := Utf8.decode ⟨s.toArray⟩ pos
          some (.val (.tup [.bool true, .int .i64 pos, .int .i32 c]) (h.set b (.iter s (pos + w))))
        else ok (.tup [.bool false])
      | _ => none
    | _ => none
def k_sap (n : Nat) (x : IX) (ρ : IX → AV) (h : H) : Option Ans :=
  let ok (v : AV) : Option Ans := some (.val v h)
  let o (v : Option AV) : Option Ans := v.map (Ans.val · h)
  match ρ x with
    | .nils => if n == 0 then ok .nilp else none
    | .sl a m _ => if n ≤ m && 0 < n then ok (.ptr a) else none
    | _ => none
def k_xt (k : Nat) (args : List IX) (ρ : IX → AV) (h : H) : Option Ans :=
  let ok (v : AV) : Option Ans := some (.val v h)
  let o (v : Option AV) : Option Ans := v.map (Ans.val · h)
  o (xtRun k (args.map ρ))
def k_call (f : FuncId) (args : List IX) (ρ : IX → AV) (h : H) : Option Ans :=
  let ok (v : AV) : Option Ans := some (.val v h)
  let o (v : Option AV) : Option Ans := v.map (Ans.val · h)
  some (.call f (args.map ρ))
def k_callv (f : IX) (args : List IX) (ρ : IX → AV) (h : H) : Option Ans :=
  let ok (v : AV) : Option Ans := some (.val v h)
  let o (v : Option AV) : Option Ans := v.map (Ans.val · h)
  match ρ f with
    | .fn (.func f) first captured => some (.call f (first ++ args.map ρ ++ captured))
    | _ => none
def k_app (e : Nat) (sz : Nat) (bytes : Nat) (st : Bool) (x : IX) (y : IX) (ρ : IX → AV) (h : H) : Option Ans :=
  let ok (v : AV) : Option Ans := some (.val v h)
  let o (v : Option AV) : Option Ans := v.map (Ans.val · h)
  if isStrV (ρ y) == st then append h e sz bytes (ρ x) (ρ y) else none
def k_len (st : Bool) (x : IX) (ρ : IX → AV) (h : H) : Option Ans :=
  let ok (v : AV) : Option Ans := some (.val v h)
  let o (v : Option AV) : Option Ans := v.map (Ans.val · h)
  match ρ x with
    | .str s => if st then ok (.int .i64 s.length) else none
    | .nils => if st then none else ok (.int .i64 0)
    | .sl _ n _ => if st then none else ok (.int .i64 n)
    | _ => none
def k_copy (sz : Nat) (x : IX) (y : IX) (ρ : IX → AV) (h : H) : Option Ans :=
  let ok (v : AV) : Option Ans := some (.val v h)
  let o (v : Option AV) : Option Ans := v.map (Ans.val · h)
  match ρ x, srcLen (ρ y) with
    | .nils, some _ => ok (.int .i64 0)
    | .sl a n _, some m => match srcFirst h sz (Nat.min m n) (ρ y) with
      | some cs => (h.st a cs).map fun h' => .val (.int .i64 (Nat.min m n : Nat)) h'
      | none => none
    | _, _ => none
def k_min (x : IX) (y : IX) (ρ : IX → AV) (h : H) : Option Ans :=
  let ok (v : AV) : Option Ans := some (.val v h)
  let o (v : Option AV) : Option Ans := v.map (Ans.val · h)
  match ρ x, ρ y with
    | .int k a, .int _ b => ok (.int k (if b < a then b else a))
    | _, _ => none
def k_max (x : IX) (y : IX) (ρ : IX → AV) (h : H) : Option Ans :=
  let ok (v : AV) : Option Ans := some (.val v h)
  let o (v : Option AV) : Option Ans := v.map (Ans.val · h)
  match ρ x, ρ y with
    | .int k a, .int _ b => ok (.int k (if b > a then b else a))
    | _, _ => none
def k_look (d : EqD) (z : AV) (okq : Bool) (x : IX) (i : IX) (ρ : IX → AV) (h : H) : Option Ans :=
  let ok (v : AV) : Option Ans := some (.val v h)
  let o (v : Option AV) : Option Ans := v.map (Ans.val · h)
  match ρ x with
    | .nilm => ok (if okq then .tup [z, .bool false] else z)
    | .map r => match h.get r with
      | some (.map es _) => match findKey d (ρ i) es 0 with
        | some (some (_, v)) => ok (if okq then .tup [v, .bool true] else v)
        | some none => ok (if okq then .tup [z, .bool false] else z)
        | none => none
      | _ => none
    | _ => none
def k_upd (d : EqD) (x : IX) (k : IX) (v : IX) (ρ : IX → AV) (h : H) : Option Ans :=
  let ok (v : AV) : Option Ans := some (.val v h)
  let o (v : Option AV) : Option Ans := v.map (Ans.val · h)
  match ρ x with
    | .map r => match h.get r with
      | some (.map es clock) => match findKey d (ρ k) es 0 with
        | some (some (i, _)) => match getL es i with
          | some (_, _, born) => some (.val .undef (h.set r (.map (setL es i (ρ k, ρ v, born)) clock)))
          | none => none
        | some none => some (.val .undef (h.set r (.map (es ++ [(ρ k, ρ v, clock)]) (clock + 1))))
        | none => none
      | _ => none
    | _ => none
def k_fail (ρ : IX → AV) (h : H) : Option Ans :=
  let ok (v : AV) : Option Ans := some (.val v h)
  let o (v : Option AV) : Option Ans := v.map (Ans.val · h)
  none
def k_mlen (x : IX) (ρ : IX → AV) (h : H) : Option Ans :=
  let ok (v : AV) : Option Ans := some (.val v h)
  let o (v : Option AV) : Option Ans := v.map (Ans.val · h)
  match ρ x with
    | .nilm => ok (.int .i64 0)
    | .map r => match h.get r with
      | some (.map es _) => ok (.int .i64 es.length)
      | _ => none
    | _ => none

def iopK (op : IOp) (ρ : IX → AV) (h : H) : Option Ans :=
  match op with
  | .mv x => k_mv x ρ h
  | .pick c a b => k_pick c a b ρ h
  | .new e x => k_new e x ρ h
  | .build z ps => k_build z ps ρ h
  | .bsl e z n ps => k_bsl e z n ps ρ h
  | .ld ag x => k_ld ag x ρ h
  | .st n a v => k_st n a v ρ h
  | .nilck x => k_nilck x ρ h
  | .bin op x y => k_bin op x y ρ h
  | .eq d neg lit x y => k_eq d neg lit x y ρ h
  | .un op x => k_un op x ρ h
  | .cvI k x => k_cvI k x ρ h
  | .cvSB e x => k_cvSB e x ρ h
  | .cvBS x => k_cvBS x ρ h
  | .cvSS x => k_cvSS x ρ h
  | .cvIS x => k_cvIS x ρ h
  | .cvBB x => k_cvBB x ρ h
  | .mkI t x => k_mkI t x ρ h
  | .mkF f a b => k_mkF f a b ρ h
  | .mkM => k_mkM ρ h
  | .mkS e z bytes l c => k_mkS e z bytes l c ρ h
  | .slS x lo hi => k_slS x lo hi ρ h
  | .slL sz x lo hi mx => k_slL sz x lo hi mx ρ h
  | .slA n sz x lo hi mx => k_slA n sz x lo hi mx ρ h
  | .fa off x => k_fa off x ρ h
  | .fd off sz x => k_fd off sz x ρ h
  | .ia sz x i => k_ia sz x i ρ h
  | .iaA n sz x i => k_iaA n sz x i ρ h
  | .ixS x i => k_ixS x i ρ h
  | .ixA n sz ag x i => k_ixA n sz ag x i ρ h
  | .ext x i => k_ext x i ρ h
  | .rng x => k_rng x ρ h
  | .next x => k_next x ρ h
  | .sap n x => k_sap n x ρ h
  | .call f args => k_call f args ρ h
  | .callv f args => k_callv f args ρ h
  | .app e sz bytes st x y => k_app e sz bytes st x y ρ h
  | .len st x => k_len st x ρ h
  | .copy sz x y => k_copy sz x y ρ h
  | .min x y => k_min x y ρ h
  | .max x y => k_max x y ρ h
  | .look d z okq x i => k_look d z okq x i ρ h
  | .upd d x k v => k_upd d x k v ρ h
  | .fail => k_fail ρ h
  | .mlen x => k_mlen x ρ h
  | .xt k args => k_xt k args ρ h

theorem iopK_eq (op : IOp) (ρ : IX → AV) (h : H) : iopK op ρ h = iop op ρ h := by cases op <;> rfl

/-! Values that are laid out in full before they are passed on: for the kernel's run alone. -/

def forceN {β : Type} (n : Nat) (k : Nat → β) : β := match n with
  | 0 => k 0
  | m + 1 => k (m + 1)

def forceZ {β : Type} (n : Int) (k : Int → β) : β := match n with
  | .ofNat m => forceN m fun m => k (.ofNat m)
  | .negSucc m => forceN m fun m => k (.negSucc m)

def forceV {β : Type} (v : AV) (k : AV → β) : β := match v with
  | .int i n => forceZ n fun n => k (.int i n)
  | .bool true => k (.bool true)
  | .bool false => k (.bool false)
  | v => k v

theorem forceN_eq {β : Type} (n : Nat) (k : Nat → β) : forceN n k = k n := by cases n <;> rfl
theorem forceZ_eq {β : Type} (n : Int) (k : Int → β) : forceZ n k = k n := by cases n <;> simp only [forceZ, forceN_eq]
theorem forceV_eq {β : Type} (v : AV) (k : AV → β) : forceV v k = k v := by
  unfold forceV
  split
  · rw [forceZ_eq]
  · rfl
  · rfl
  · rfl
/-! ### Slots in a tree -/

inductive ST where
  | nil
  | node (v : AV) (l r : ST)

noncomputable def sget (t : ST) : Nat → Option AV :=
  ST.rec (fun _ => none) (fun v _ _ gl gr i => match i with
    | 0 => some v
    | j + 1 => match j % 2 with
      | 0 => gl (j / 2)
      | _ => gr (j / 2)) t

noncomputable def sset (t : ST) : Nat → AV → ST :=
  ST.rec (fun _ _ => .nil) (fun v l r fl fr i x => match i with
    | 0 => .node x l r
    | j + 1 => match j % 2 with
      | 0 => .node v (fl (j / 2) x) r
      | _ => .node v l (fr (j / 2) x)) t

def blank : Nat → Nat → ST
  | 0, _ => .nil
  | f + 1, n => match n with
    | 0 => .nil
    | m + 1 => .node .undef (blank f ((m + 1) / 2)) (blank f (m / 2))

theorem sget_node (v : AV) (l r : ST) (i : Nat) : sget (.node v l r) i = match i with
    | 0 => some v
    | j + 1 => match j % 2 with
      | 0 => sget l (j / 2)
      | _ => sget r (j / 2) := rfl
theorem sset_node (v : AV) (l r : ST) (i : Nat) (x : AV) : sset (.node v l r) i x = match i with
    | 0 => .node x l r
    | j + 1 => match j % 2 with
      | 0 => .node v (sset l (j / 2) x) r
      | _ => .node v l (sset r (j / 2) x) := rfl

theorem sget_sset : ∀ (t : ST) (i : Nat) (x : AV) (k : Nat), sget (sset t i x) k = if k = i ∧ (sget t k).isSome then some x else sget t k
  | .nil, i, x, k => by simp [sget, sset]
  | .node v l r, i, x, k => by
    rw [sset_node]
    cases i with
    | zero =>
      simp only [sget_node]
      cases k with
      | zero => simp
      | succ k => simp
    | succ j =>
      rcases Nat.mod_two_eq_zero_or_one j with hj | hj <;> simp only [hj, sget_node] <;> cases k with
      | zero => simp
      | succ k =>
        rcases Nat.mod_two_eq_zero_or_one k with hk | hk <;> simp only [hk] <;> first
          | (rw [sget_sset]; have e : (k / 2 = j / 2) ↔ (k + 1 = j + 1) := by omega
             simp only [e])
          | (have e : ¬ (k + 1 = j + 1) := by omega
             simp only [e, false_and, if_false])

theorem sget_blank : ∀ (f n i : Nat), n ≤ f → sget (blank f n) i = if i < n then some .undef else none
  | 0, n, i, h => by have : n = 0 := by omega
                     subst this; simp [blank, sget]
  | f + 1, 0, i, h => by simp [blank, sget]
  | f + 1, m + 1, i, h => by
    simp only [blank, sget_node]
    cases i with
    | zero => simp
    | succ j =>
      rcases Nat.mod_two_eq_zero_or_one j with hj | hj <;> simp only [hj] <;> rw [sget_blank f _ _ (by omega)] <;> congr 1 <;> apply propext <;> omega

/-- The tree holds what the list holds. -/
def SR (t : ST) (ts : List AV) : Prop := ∀ i, sget t i = getL ts i

theorem getL_setL' {α : Type} : ∀ (l : List α) (i : Nat) (v : α) (t : Nat), getL (setL l i v) t = if t = i ∧ (getL l t).isSome then some v else getL l t
  | [], i, v, t => by simp [setL, getL]
  | x :: l, 0, v, 0 => by simp [setL, getL]
  | x :: l, 0, v, t + 1 => by simp [setL, getL]
  | x :: l, i + 1, v, 0 => by simp [setL, getL]
  | x :: l, i + 1, v, t + 1 => by simp [setL, getL, getL_setL' l i v t]

theorem SR.set {t : ST} {ts : List AV} (h : SR t ts) (i : Nat) (v : AV) : SR (sset t i v) (setL ts i v) := by
  intro k
  rw [sget_sset, getL_setL', h k]

noncomputable def sput (t : ST) (d : Option Nat) (v : AV) : ST := match d with
  | none => t
  | some d => sset t d v

theorem SR.put {t : ST} {ts : List AV} (h : SR t ts) (d : Option Nat) (v : AV) : SR (sput t d v) (Det.put ts d v) := by
  cases d with
  | none => exact h
  | some d => exact h.set d v

noncomputable def evK (t : ST) : IX → AV
  | .t n => (sget t n).getD .undef
  | .c v => v
  | .g n => .ptr ⟨n, 0, 0⟩

theorem SR.ev {t : ST} {ts : List AV} (h : SR t ts) : evK t = Det.ev ts := by
  funext x
  cases x with
  | t n => simp only [evK, Det.ev, h n]
  | c v => rfl
  | g n => rfl

noncomputable def sargs : List AV → Nat → ST → ST
  | [], _, t => t
  | v :: l, i, t => sargs l (i + 1) (sset t i v)

theorem getL_eq' {α : Type} : ∀ (l : List α) (i : Nat), getL l i = l[i]?
  | [], _ => rfl
  | _ :: _, 0 => rfl
  | _ :: l, i + 1 => by simp [getL, getL_eq' l i]

theorem sget_sargs : ∀ (l : List AV) (i : Nat) (t : ST) (n : Nat), (∀ k, (sget t k).isSome = decide (k < n)) → i + l.length ≤ n → ∀ k, sget (sargs l i t) k = if i ≤ k ∧ k < i + l.length then l[k - i]? else sget t k
  | [], i, t, n, hn, h, k => by simp only [sargs, List.length_nil, Nat.add_zero]; rw [if_neg (by omega)]
  | v :: l, i, t, n, hn, h, k => by
    simp only [List.length_cons] at h
    simp only [sargs, List.length_cons]
    rw [sget_sargs l (i + 1) (sset t i v) n ?_ (by omega) k]
    · by_cases h1 : i + 1 ≤ k ∧ k < i + 1 + l.length
      · rw [if_pos h1, if_pos (by omega)]
        have : k - i = (k - (i + 1)) + 1 := by omega
        rw [this]; simp
      · rw [if_neg h1, sget_sset]
        by_cases h2 : k = i
        · subst h2
          rw [if_pos ⟨rfl, by rw [hn]; simp; omega⟩, if_pos (by omega)]
          simp
        · rw [if_neg (fun e => h2 e.1), if_neg (by omega)]
    · intro k
      rw [sget_sset]
      split
      · rename_i hk; rw [← hn k, hk.2]; rfl
      · exact hn k

theorem SR.start {args : List AV} {n : Nat} (h : args.length ≤ n) : SR (sargs args 0 (blank n n)) (args ++ List.replicate (n - args.length) .undef) := by
  have hb : ∀ k, sget (blank n n) k = if k < n then some .undef else none := fun k => sget_blank n n k (Nat.le_refl _)
  intro k
  rw [sget_sargs args 0 (blank n n) n (fun k => by rw [hb]; by_cases h : k < n <;> simp [h]) (by omega) k, getL_eq', hb]
  by_cases h1 : k < args.length
  · rw [if_pos (by omega), List.getElem?_append_left h1]; simp
  · rw [if_neg (by omega), List.getElem?_append_right (by omega), List.getElem?_replicate]
    by_cases h2 : k < n
    · rw [if_pos h2, if_pos (by omega)]
    · rw [if_neg h2, if_neg (by omega)]

/-! ### The machine -/

abbrev SK := ST × H

noncomputable def wantedK (g : Option (Nat × Bool)) (t : ST) : Bool :=
  match g with
  | none => true
  | some (i, w) => match sget t i with
    | some (.bool b) => b == w
    | _ => false

theorem SR.wanted {t : ST} {ts : List AV} (h : SR t ts) (g : Option (Nat × Bool)) : wantedK g t = Det.wanted g ts := by
  cases g with
  | none => rfl
  | some p => simp only [wantedK, Det.wanted, h p.1]; rfl

noncomputable def oneK (cf : CallF) (op : IOp) (t : ST) (h : H) : Option (AV × H) :=
  match iopK op (evK t) h with
  | some (.val v h') => some (v, h')
  | some (.call f args) => cf f args h
  | none => none

/-- One answer is the other's. -/
def Leads (f g : CallF) : Prop := ∀ i args h r, f i args h = some r → g i args h = some r

theorem SR.one {t : ST} {ts : List AV} (hs : SR t ts) {ck cf : CallF} (hl : Leads ck cf) {op : IOp} {h : H} {r : AV × H} (ho : oneK ck op t h = some r) : oneOp cf op ts h = some r := by
  unfold oneK at ho
  unfold oneOp
  rw [iopK_eq, hs.ev] at ho
  split at ho
  · rename_i hi; rw [hi]; exact ho
  · rename_i hi; rw [hi]; exact hl _ _ _ _ ho
  · simp at ho

noncomputable def runOpsK (cf : CallF) (l : List IOper) : ST → H → Option (ST × H) :=
  List.rec (fun t h => some (t, h)) (fun o _ k t h => match wantedK o.guard t with
    | true => match oneK cf o.op t h with
      | some (v, h') => forceV v fun v => k (sput t o.dst v) h'
      | none => none
    | false => k (sput t o.dst .undef) h) l

theorem runOpsK_cons (cf : CallF) (o : IOper) (l : List IOper) (t : ST) (h : H) : runOpsK cf (o :: l) t h = match wantedK o.guard t with
    | true => match oneK cf o.op t h with
      | some (v, h') => forceV v fun v => runOpsK cf l (sput t o.dst v) h'
      | none => none
    | false => runOpsK cf l (sput t o.dst .undef) h := rfl

/-- What the tree's run answers, the list's run answers. -/
def Sim {α : Type} (r : Option (α × SK)) (r' : Option (α × St)) : Prop := ∀ e t h, r = some (e, t, h) → ∃ ts, SR t ts ∧ r' = some (e, ts, h)

theorem runOpsK_sim {ck cf : CallF} (hl : Leads ck cf) : ∀ (l : List IOper) (t : ST) (ts : List AV) (h : H), SR t ts → ∀ t' h', runOpsK ck l t h = some (t', h') → ∃ ts', SR t' ts' ∧ runOps cf l ts h = some (ts', h')
  | [], t, ts, h, hs, t', h', hr => by
    simp only [runOpsK, Option.some.injEq, Prod.mk.injEq] at hr
    obtain ⟨rfl, rfl⟩ := hr
    exact ⟨ts, hs, rfl⟩
  | o :: l, t, ts, h, hs, t', h', hr => by
    rw [runOpsK_cons, hs.wanted] at hr
    simp only [runOps]
    split at hr
    · rename_i hw
      rw [if_pos hw]
      split at hr
      · rename_i v h1 ho
        rw [forceV_eq] at hr
        rw [hs.one hl ho]
        exact runOpsK_sim hl l _ _ _ (hs.put o.dst v) _ _ hr
      · simp at hr
    · rename_i hw
      rw [if_neg (by simp [hw])]
      exact runOpsK_sim hl l _ _ _ (hs.put o.dst _) _ _ hr

noncomputable def addK (l : Pend) (t : ST) (o : DOper) (v : AV) : Pend :=
  match rdOp (evK t) o.op with
  | some r => (r, v, o.id) :: l
  | none => l

theorem SR.add {t : ST} {ts : List AV} (h : SR t ts) (l : Pend) (o : DOper) (v : AV) : addK l t o v = Pend.add l ts o v := by
  unfold addK Pend.add
  rw [h.ev]
  rfl

noncomputable def runDrawK (cf : CallF) : List DOper → ST → H → Pend → Option (ST × H)
  | [], t, h, pend => if pend.holds h then some (t, h) else none
  | o :: os, t, h, pend =>
    if o.act then
      if pend.holds h then
        if wantedK o.guard t then
          match oneK cf o.op t h with
          | some (v, h') => forceV v fun v => runDrawK cf os (sput t o.dst v) h' (pend.filter fun p => !o.mask.testBit p.2.2)
          | none => none
        else runDrawK cf os (sput t o.dst .undef) h (pend.filter fun p => !o.mask.testBit p.2.2)
      else none
    else
      if wantedK o.guard t then
        match oneK cf o.op t h with
        | some (v, h') => forceV v fun v => runDrawK cf os (sput t o.dst v) h' (addK pend t o v)
        | none => none
      else runDrawK cf os (sput t o.dst .undef) h pend

theorem runDrawK_sim {ck cf : CallF} (hl : Leads ck cf) : ∀ (l : List DOper) (t : ST) (ts : List AV) (h : H) (pend : Pend), SR t ts → ∀ t' h', runDrawK ck l t h pend = some (t', h') → ∃ ts', SR t' ts' ∧ runDraw cf l ts h pend = some (ts', h')
  | [], t, ts, h, pend, hs, t', h', hr => by
    simp only [runDrawK] at hr
    simp only [runDraw]
    split at hr
    · rename_i hp
      simp only [Option.some.injEq, Prod.mk.injEq] at hr
      obtain ⟨rfl, rfl⟩ := hr
      exact ⟨ts, hs, by rw [if_pos hp]⟩
    · simp at hr
  | o :: l, t, ts, h, pend, hs, t', h', hr => by
    simp only [runDrawK, hs.wanted, hs.add, forceV_eq] at hr
    simp only [runDraw]
    split at hr
    · rename_i ha
      rw [if_pos ha]
      split at hr
      · rename_i hp
        rw [if_pos hp]
        split at hr
        · rename_i hw
          rw [if_pos hw]
          split at hr
          · rename_i v h1 ho
            rw [hs.one hl ho]
            exact runDrawK_sim hl l _ _ _ _ (hs.put o.dst v) _ _ hr
          · simp at hr
        · rename_i hw
          rw [if_neg hw]
          exact runDrawK_sim hl l _ _ _ _ (hs.put o.dst _) _ _ hr
      · simp at hr
    · rename_i ha
      rw [if_neg ha]
      split at hr
      · rename_i hw
        rw [if_pos hw]
        split at hr
        · rename_i v h1 ho
          rw [hs.one hl ho]
          exact runDrawK_sim hl l _ _ _ _ (hs.put o.dst v) _ _ hr
        · simp at hr
      · rename_i hw
        rw [if_neg hw]
        exact runDrawK_sim hl l _ _ _ _ (hs.put o.dst _) _ _ hr

noncomputable def roundsK (f : SK → Option (Ex × SK)) (n : Nat) : SK → Option (Ex × SK) :=
  Nat.rec (fun _ => none) (fun _ k s => match f s with
    | some (.normal, s') => k s'
    | r => r) n

theorem roundsK_sim {f : SK → Option (Ex × SK)} {g : St → Option (Ex × St)} (hfg : ∀ t ts h, SR t ts → Sim (f (t, h)) (g (ts, h))) : ∀ (n : Nat) (t : ST) (ts : List AV) (h : H), SR t ts → Sim (roundsK f n (t, h)) (rounds g n (ts, h))
  | 0, t, ts, h, hs => by intro e t' h' hr; simp [roundsK] at hr
  | n + 1, t, ts, h, hs => by
    intro e t' h' hr
    have hr : (match f (t, h) with
      | some (.normal, s') => roundsK f n s'
      | r => r) = some (e, t', h') := hr
    simp only [rounds]
    split at hr
    · rename_i s' hf
      obtain ⟨t1, h1⟩ := s'
      obtain ⟨ts1, hs1, hg⟩ := hfg t ts h hs _ _ _ hf
      rw [hg]
      exact roundsK_sim hfg n t1 ts1 h1 hs1 e t' h' hr
    · rename_i hne
      obtain ⟨ts1, hs1, hg⟩ := hfg t ts h hs _ _ _ hr
      refine ⟨ts1, hs1, ?_⟩
      rw [hg]
      cases e with
      | normal => exact absurd hr (hne _)
      | _ => rfl

noncomputable def execK (cf : CallF) (rc : IC → SK → Option (Ex × SK)) (fuel : Nat) : IC → SK → Option (Ex × SK)
  | .skip, s => some (.normal, s)
  | .label _, s => some (.normal, s)
  | .region ops, s => match runOpsK cf ops s.1 s.2 with
    | some s' => some (.normal, s')
    | none => none
  | .draw ops, s => match runDrawK cf ops s.1 s.2 [] with
    | some s' => some (.normal, s')
    | none => none
  | .seq a b, s => match execK cf rc fuel a s with
    | some (.normal, s') => execK cf rc fuel b s'
    | r => r
  | .cond x a b, s => match evK s.1 x with
    | .bool true => execK cf rc fuel a s
    | .bool false => execK cf rc fuel b s
    | _ => none
  | .block id a, s => match execK cf rc fuel a s with
    | some (.exit i, s') => if i == id then some (.normal, s') else some (.exit i, s')
    | r => r
  | .loop a, s => roundsK (execK cf rc fuel a) fuel s
  | .exit id, s => some (.exit id, s)
  | .ret, s => some (.ret, s)
  | .scope a, s => match execK cf rc fuel a s with
    | some (.goto l, s') => match a.find l with
      | some r => rc (.inS a r) s'
      | none => some (.goto l, s')
    | r => r
  | .inS a b, s => match execK cf rc fuel b s with
    | some (.goto l, s') => match a.find l with
      | some r => rc (.inS a r) s'
      | none => some (.goto l, s')
    | r => r
  | .goto l, s => some (.goto l, s)

def SimC (f : IC → SK → Option (Ex × SK)) (g : IC → St → Option (Ex × St)) : Prop := ∀ c t ts h, SR t ts → Sim (f c (t, h)) (g c (ts, h))

theorem execK_sim {ck cf : CallF} (hl : Leads ck cf) {rc : IC → SK → Option (Ex × SK)} {rc' : IC → St → Option (Ex × St)} (hrc : SimC rc rc') (fuel : Nat) : SimC (execK ck rc fuel) (exec cf rc' fuel) := by
  intro c
  induction c with
  | skip => intro t ts h hs e t' h' hr; simp only [execK, Option.some.injEq, Prod.mk.injEq] at hr; obtain ⟨rfl, rfl, rfl⟩ := hr; exact ⟨ts, hs, rfl⟩
  | label _ => intro t ts h hs e t' h' hr; simp only [execK, Option.some.injEq, Prod.mk.injEq] at hr; obtain ⟨rfl, rfl, rfl⟩ := hr; exact ⟨ts, hs, rfl⟩
  | exit _ => intro t ts h hs e t' h' hr; simp only [execK, Option.some.injEq, Prod.mk.injEq] at hr; obtain ⟨rfl, rfl, rfl⟩ := hr; exact ⟨ts, hs, rfl⟩
  | ret => intro t ts h hs e t' h' hr; simp only [execK, Option.some.injEq, Prod.mk.injEq] at hr; obtain ⟨rfl, rfl, rfl⟩ := hr; exact ⟨ts, hs, rfl⟩
  | goto _ => intro t ts h hs e t' h' hr; simp only [execK, Option.some.injEq, Prod.mk.injEq] at hr; obtain ⟨rfl, rfl, rfl⟩ := hr; exact ⟨ts, hs, rfl⟩
  | region ops =>
    intro t ts h hs e t' h' hr
    simp only [execK] at hr
    split at hr
    · rename_i s' ho
      simp only [Option.some.injEq, Prod.mk.injEq] at hr
      obtain ⟨rfl, rfl⟩ := hr
      obtain ⟨ts', hs', h2⟩ := runOpsK_sim hl ops t ts h hs _ _ ho
      exact ⟨ts', hs', by simp only [exec, h2]; rfl⟩
    · simp at hr
  | draw ops =>
    intro t ts h hs e t' h' hr
    simp only [execK] at hr
    split at hr
    · rename_i s' ho
      simp only [Option.some.injEq, Prod.mk.injEq] at hr
      obtain ⟨rfl, rfl⟩ := hr
      obtain ⟨ts', hs', h2⟩ := runDrawK_sim hl ops t ts h [] hs _ _ ho
      exact ⟨ts', hs', by simp only [exec, h2]; rfl⟩
    · simp at hr
  | seq a b iha ihb =>
    intro t ts h hs e t' h' hr
    simp only [execK] at hr
    simp only [exec]
    split at hr
    · rename_i s' ha
      obtain ⟨t1, h1⟩ := s'
      obtain ⟨ts1, hs1, hg⟩ := iha t ts h hs _ _ _ ha
      rw [hg]
      exact ihb t1 ts1 h1 hs1 e t' h' hr
    · rename_i hne
      obtain ⟨ts1, hs1, hg⟩ := iha t ts h hs _ _ _ hr
      refine ⟨ts1, hs1, ?_⟩
      rw [hg]
      cases e with
      | normal => exact absurd hr (hne _)
      | _ => rfl
  | cond x a b iha ihb =>
    intro t ts h hs e t' h' hr
    simp only [execK, hs.ev] at hr
    simp only [exec]
    split at hr
    · rename_i hx; rw [hx]; exact iha t ts h hs e t' h' hr
    · rename_i hx; rw [hx]; exact ihb t ts h hs e t' h' hr
    · simp at hr
  | block id a iha =>
    intro t ts h hs e t' h' hr
    simp only [execK] at hr
    simp only [exec]
    split at hr
    · rename_i i s' ha
      obtain ⟨t1, h1⟩ := s'
      obtain ⟨ts1, hs1, hg⟩ := iha t ts h hs _ _ _ ha
      rw [hg]
      simp only []
      split at hr
      · rename_i hi
        simp only [Option.some.injEq, Prod.mk.injEq] at hr
        obtain ⟨rfl, rfl, rfl⟩ := hr
        exact ⟨ts1, hs1, by rw [if_pos hi]⟩
      · rename_i hi
        simp only [Option.some.injEq, Prod.mk.injEq] at hr
        obtain ⟨rfl, rfl, rfl⟩ := hr
        exact ⟨ts1, hs1, by rw [if_neg hi]⟩
    · rename_i hne
      obtain ⟨ts1, hs1, hg⟩ := iha t ts h hs _ _ _ hr
      refine ⟨ts1, hs1, ?_⟩
      rw [hg]
      cases e with
      | exit i => exact absurd hr (hne _ _)
      | _ => rfl
  | loop a iha =>
    intro t ts h hs e t' h' hr
    simp only [execK] at hr
    simp only [exec]
    exact roundsK_sim (fun t ts h hs => iha t ts h hs) fuel t ts h hs e t' h' hr
  | scope a iha =>
    intro t ts h hs e t' h' hr
    simp only [execK] at hr
    simp only [exec]
    split at hr
    · rename_i l s' ha
      obtain ⟨t1, h1⟩ := s'
      obtain ⟨ts1, hs1, hg⟩ := iha t ts h hs _ _ _ ha
      rw [hg]
      simp only []
      split at hr
      · rename_i r hf
        rw [hf]
        exact hrc _ t1 ts1 h1 hs1 e t' h' hr
      · rename_i hf
        rw [hf]
        simp only [Option.some.injEq, Prod.mk.injEq] at hr
        obtain ⟨rfl, rfl, rfl⟩ := hr
        exact ⟨ts1, hs1, rfl⟩
    · rename_i hne
      obtain ⟨ts1, hs1, hg⟩ := iha t ts h hs _ _ _ hr
      refine ⟨ts1, hs1, ?_⟩
      rw [hg]
      cases e with
      | goto l => exact absurd hr (hne _ _)
      | _ => rfl
  | inS a b _ ihb =>
    intro t ts h hs e t' h' hr
    simp only [execK] at hr
    simp only [exec]
    split at hr
    · rename_i l s' ha
      obtain ⟨t1, h1⟩ := s'
      obtain ⟨ts1, hs1, hg⟩ := ihb t ts h hs _ _ _ ha
      rw [hg]
      simp only []
      split at hr
      · rename_i r hf
        rw [hf]
        exact hrc _ t1 ts1 h1 hs1 e t' h' hr
      · rename_i hf
        rw [hf]
        simp only [Option.some.injEq, Prod.mk.injEq] at hr
        obtain ⟨rfl, rfl, rfl⟩ := hr
        exact ⟨ts1, hs1, rfl⟩
    · rename_i hne
      obtain ⟨ts1, hs1, hg⟩ := ihb t ts h hs _ _ _ hr
      refine ⟨ts1, hs1, ?_⟩
      rw [hg]
      cases e with
      | goto l => exact absurd hr (hne _ _)
      | _ => rfl

noncomputable def resK (h : H) (t : ST) : List (Nat × Option (Option Nat)) → Option (List AV)
  | [] => some []
  | (i, none) :: r => match resK h t r with
    | some l => some ((sget t i).getD .undef :: l)
    | none => none
  | (i, some ag) :: r => match iopK (.ld ag (.t i)) (evK t) h with
    | some (.val v _) => match resK h t r with
      | some l => some (v :: l)
      | none => none
    | _ => none

theorem resK_eq {t : ST} {ts : List AV} (hs : SR t ts) (h : H) : ∀ rs, resK h t rs = resOf h ts rs
  | [] => rfl
  | (i, none) :: r => by
    simp only [resK, resOf, resK_eq hs h r, hs i]
    cases resOf h ts r <;> rfl
  | (i, some ag) :: r => by
    simp only [resK, resOf, resK_eq hs h r, iopK_eq, hs.ev]
    split
    · rename_i v _ hv
      rw [hv]
      cases resOf h ts r <;> rfl
    · rename_i hv
      split
      · rename_i v _ hv'; exact absurd hv' (hv _ _)
      · rfl

noncomputable def retK (h : H) (t : ST) (rs : List (Nat × Option (Option Nat))) : Option AV :=
  match resK h t rs with
  | some [v] => some v
  | some vs => some (.tup vs)
  | none => none

theorem retK_eq {t : ST} {ts : List AV} (hs : SR t ts) (h : H) (rs : List (Nat × Option (Option Nat))) : retK h t rs = retV h ts rs := by
  unfold retK retV
  rw [resK_eq hs]
  rfl

structure MachK where
  call : CallF
  code : IC → SK → Option (Ex × SK)

noncomputable def callK (F : FTab) (n : Nat) (m : MachK) : CallF := fun f args h =>
  match F f with
  | Option.none => Option.none
  | some fn => match fn.known with
    | true => match fn.nat with
      | some g => g args h
      | Option.none => match args with
        | [] => some (.bool true, h)
        | _ => Option.none
    | false => match Nat.ble args.length fn.ntmps with
      | false => Option.none
      | true => match execK m.call m.code n fn.body (sargs args 0 (blank fn.ntmps fn.ntmps), h) with
        | some (.normal, s) => match retK s.2 s.1 fn.results with
          | some v => some (v, s.2)
          | Option.none => Option.none
        | some (.ret, s) => match retK s.2 s.1 fn.results with
          | some v => some (v, s.2)
          | Option.none => Option.none
        | _ => Option.none

noncomputable def machK (F : FTab) : Nat → MachK
  | 0 => ⟨fun _ _ _ => Option.none, fun _ _ => Option.none⟩
  | n + 1 => ⟨callK F n (machK F n), execK (machK F n).call (machK F n).code n⟩

theorem callK_sim (F : FTab) (n : Nat) {m : MachK} {m' : Mach} (hl : Leads m.call m'.call) (hc : SimC m.code m'.code) : Leads (callK F n m) (callStep F n m') := by
  intro f args h r hr
  unfold callK at hr
  unfold callStep
  split at hr
  · simp at hr
  · rename_i fn hf
    rw [hf]
    simp only []
    split at hr
    · rename_i hk
      rw [if_pos hk]
      cases hn : fn.nat with
      | some g => rw [hn] at hr; exact hr
      | none =>
        rw [hn] at hr
        simp only [] at hr ⊢
        split at hr
        · exact hr
        · simp at hr
    · rename_i hk
      rw [if_neg (by simp [hk])]
      split at hr
      · simp at hr
      · rename_i hlen
        have hlen := Nat.le_of_ble_eq_true hlen
        have hs := SR.start hlen
        have sim := execK_sim hl hc n fn.body _ _ h hs
        split at hr
        · rename_i s he
          obtain ⟨t1, h1⟩ := s
          obtain ⟨ts1, hs1, hg⟩ := sim _ _ _ he
          rw [hg]
          simp only [retK_eq hs1] at hr ⊢
          split at hr
          · rename_i v hv; rw [hv]; exact hr
          · simp at hr
        · rename_i s he
          obtain ⟨t1, h1⟩ := s
          obtain ⟨ts1, hs1, hg⟩ := sim _ _ _ he
          rw [hg]
          simp only [retK_eq hs1] at hr ⊢
          split at hr
          · rename_i v hv; rw [hv]; exact hr
          · simp at hr
        · simp at hr

theorem machK_sim (F : FTab) : ∀ n, Leads (machK F n).call (mach F n).call ∧ SimC (machK F n).code (mach F n).code
  | 0 => ⟨fun _ _ _ _ hr => by simp [machK] at hr, fun _ _ _ _ _ _ _ _ hr => by simp [machK] at hr⟩
  | n + 1 => by
    obtain ⟨h1, h2⟩ := machK_sim F n
    exact ⟨callK_sim F n h1 h2, execK_sim h1 h2 n⟩

end Go.Det
