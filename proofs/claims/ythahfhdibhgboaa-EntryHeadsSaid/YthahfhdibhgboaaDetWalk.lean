/- What a walk needs: slots behind writes, numbers that fit. -/
import Derived.Test.YthahfhdibhgboaaDetBytes
set_option linter.unusedVariables false
set_option linter.unusedSimpArgs false
set_option linter.unusedSectionVars false
namespace Go.Det

theorem getL_put {α : Type} : ∀ (l : List α) (i : Nat) (v : α) (t : Nat), getL (setL l i v) t = if t = i ∧ t < l.length then some v else getL l t
  | [], i, v, t => by simp [setL, getL]
  | x :: l, 0, v, 0 => by simp [setL, getL]
  | x :: l, 0, v, t + 1 => by simp [setL, getL]
  | x :: l, i + 1, v, 0 => by simp [setL, getL]
  | x :: l, i + 1, v, t + 1 => by simp [setL, getL, getL_put l i v t]
theorem len_put {α : Type} : ∀ (l : List α) (i : Nat) (v : α), (setL l i v).length = l.length
  | [], _, _ => rfl
  | _ :: _, 0, _ => rfl
  | _ :: l, i + 1, v => by simp [setL, len_put l i v]

theorem i64_fit (x : Int) (h : -(2 ^ 63) ≤ x ∧ x < 2 ^ 63) : IntKind.i64.wrap x = x := by simp [IntKind.wrap, IntKind.bits, IntKind.signed]; omega
theorem u64_fit (x : Int) (h : 0 ≤ x ∧ x < 2 ^ 64) : IntKind.u64.wrap x = x := by simp [IntKind.wrap, IntKind.bits, IntKind.signed]; omega
theorem u8_fit (x : Int) (h : 0 ≤ x ∧ x < 256) : IntKind.u8.wrap x = x := by simp [IntKind.wrap, IntKind.bits, IntKind.signed]; omega

/-- A row of one byte, just made. -/
theorem Bs.one (h : H) (c : UInt8) : Bs (h.new (.cells 0 5 [.int .u8 c.toNat] 0 false)) (.sl ⟨h.n, 0, 0⟩ 1 (.ex 1)) [c] := by
  refine .inr ⟨⟨h.n, 0, 0⟩, .ex 1, rfl, by simp, ?_⟩
  unfold H.ldn H.row
  simp only [h.get_new, BEq.rfl, if_true]
  rfl

theorem put_byte : ∀ (l : List UInt8) (k : Nat) (c : UInt8), k < l.length → putAt (bytesAV l) k [.int .u8 c.toNat] = bytesAV (l.set k c)
  | [], k, c, h => by simp at h
  | x :: l, 0, c, h => by simp [bytesAV, putAt]
  | x :: l, k + 1, c, h => by
    have := put_byte l k c (by simpa using h)
    simp only [bytesAV, List.map_cons, putAt, List.set_cons_succ] at this ⊢
    rw [this]

theorem get_byte : ∀ (l : List UInt8) (k : Nat), getL (bytesAV l) k = (l[k]?).map fun c => AV.int .u8 c.toNat
  | [], k => by simp [bytesAV, getL]
  | x :: l, 0 => by simp [bytesAV, getL]
  | x :: l, k + 1 => by
    have := get_byte l k
    simp only [bytesAV, List.map_cons, getL, List.getElem?_cons_succ] at this ⊢
    exact this

/-- A byte is written into a row. -/
theorem st_byte {h : H} {b g e : Nat} {l : List UInt8} (hg : h.get b = some (.cells g e (bytesAV l) 0 false)) {k : Nat} (hk : k < l.length) (c : UInt8) :
    h.st ⟨b, g, k⟩ [.int .u8 c.toNat] = some (h.set b (.cells g e (bytesAV (l.set k c)) 0 false)) := by
  unfold H.st
  simp only [hg]
  rw [if_pos (by simp [bytes_len, AV.one]; omega), put_byte l k c hk]

theorem ofNat_mod (x : Nat) : UInt8.ofNat (x % 256) = UInt8.ofNat x := by
  apply UInt8.toNat_inj.1
  simp

/-- Operations that call nothing, run. -/
theorem Wo.of_run {F : FTab} {l : List IOper} {ts : List AV} {h : H} {Q : List AV → H → Prop} (hq : match runOps (fun _ _ _ => none) l ts h with | some (ts', h') => Q ts' h' | none => False) : Wo F l ts h Q := by
  split at hq
  · rename_i hr; exact ⟨0, _, _, hr, hq⟩
  · exact hq.elim

end Go.Det
