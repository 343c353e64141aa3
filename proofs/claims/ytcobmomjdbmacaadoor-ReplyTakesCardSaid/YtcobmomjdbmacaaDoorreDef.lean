/- Reply: what a reply's bytes are, what bytes begin with: plain. -/
import Derived.Lib.ItoaNum
import Derived.Lib.Atoi
set_option linter.unusedVariables false
set_option linter.unusedSimpArgs false
namespace Go.Proofs.Re

/-- The decimal digits of a number (of at most 20). -/
def digsF : Nat → Nat → List UInt8
  | 0, _ => []
  | f + 1, u => if u < 10 then [UInt8.ofNat (48 + u)] else digsF f (u / 10) ++ [UInt8.ofNat (48 + u % 10)]
def dec (u : Nat) : List UInt8 := digsF 20 u
theorem digsF_eq : ∀ (f u : Nat), u < 10 ^ f → digsF f u = if f = 0 then [] else Lib.decDigits u
  | 0, u, h => rfl
  | f + 1, u, h => by
    rw [if_neg (by omega), Lib.decDigits, digsF]
    split
    · rfl
    · rename_i h1
      have hf : f ≠ 0 := by
        rintro rfl
        simp at h
        omega
      rw [digsF_eq f (u / 10) (by rw [Nat.pow_succ] at h; omega), if_neg hf]
theorem dec_eq (u : Nat) (h : u < 10 ^ 20) : dec u = Lib.decDigits u := by
  unfold dec
  rw [digsF_eq 20 u h, if_neg (by omega)]

def ver : List UInt8 := [72, 84, 84, 80, 47, 49, 46, 49, 32]
def kind : List UInt8 := [13, 10, 67, 111, 110, 116, 101, 110, 116, 45, 84, 121, 112, 101, 58, 32, 97, 112, 112, 108, 105, 99, 97, 116, 105, 111, 110, 47, 106, 115, 111, 110, 13, 10, 67, 111, 110, 116, 101, 110, 116, 45, 76, 101, 110, 103, 116, 104, 58, 32]
def closing : List UInt8 := [13, 10, 67, 111, 110, 110, 101, 99, 116, 105, 111, 110, 58, 32, 99, 108, 111, 115, 101, 13, 10, 13, 10]
def staying : List UInt8 := [13, 10, 13, 10]
/-- The statuses' words. -/
def words (n : Int) : List UInt8 :=
  if n = 200 then [79, 75] else
  if n = 400 then [66, 97, 100, 32, 82, 101, 113, 117, 101, 115, 116] else
  if n = 404 then [78, 111, 116, 32, 70, 111, 117, 110, 100] else
  if n = 405 then [77, 101, 116, 104, 111, 100, 32, 78, 111, 116, 32, 65, 108, 108, 111, 119, 101, 100] else
  if n = 500 then [73, 110, 116, 101, 114, 110, 97, 108, 32, 83, 101, 114, 118, 101, 114, 32, 69, 114, 114, 111, 114] else
  if n = 503 then [83, 101, 114, 118, 105, 99, 101, 32, 85, 110, 97, 118, 97, 105, 108, 97, 98, 108, 101] else
  []
def codes : List Nat := [200, 400, 404, 405, 500, 503]
/-- What stands ahead of the number of bytes. -/
def line (st : Nat) : List UInt8 := ver ++ dec st ++ [32] ++ words st ++ kind
def ending (c : Bool) : List UInt8 := if c then closing else staying
def head (st n : Nat) (c : Bool) : List UInt8 := line st ++ dec n ++ ending c
def most : Nat := 1048576
/-- A reply's bytes. -/
def putF (st : Int) (body : List UInt8) (c : Bool) : List UInt8 :=
  if words st = [] ∨ body.length > most then head 500 0 c else head st.toNat body.length c ++ body

/-- What is told of bytes. -/
inductive Res where
  | more
  | form
  | ok (st n : Nat) (c : Bool)
  deriving DecidableEq
def isDig (c : UInt8) : Bool := 48 ≤ c.toNat && c.toNat ≤ 57
/-- The first digits, so many at most. -/
def dgs : Nat → List UInt8 → List UInt8
  | 0, _ => []
  | _, [] => []
  | k + 1, c :: r => if isDig c then c :: dgs k r else []
def val (l : List UInt8) : Nat := l.foldl (fun n c => 10 * n + (c.toNat - 48)) 0
/-- What is told behind the line. -/
def tailP (st : Nat) (r : List UInt8) : Res :=
  let d := dgs 8 r
  let rest := r.drop d.length
  if d = [] then (if rest = [] then .more else .form)
  else if dec (val d) ≠ d ∨ val d > most then .form
  else
    let c := (closing.take 3).isPrefixOf rest
    if rest.length < (ending c).length then (if rest.isPrefixOf (ending c) then .more else .form)
    else if !(ending c).isPrefixOf rest then .form
    else if rest.length - (ending c).length < val d then .more
    else .ok st (val d) c
/-- The program's reading. -/
def takeP (b : List UInt8) : Res := match codes.find? fun st => (line st).isPrefixOf b with
  | some st => tailP st (b.drop (line st).length)
  | none => if codes.any fun st => b.isPrefixOf (line st) then .more else .form
end Go.Proofs.Re
