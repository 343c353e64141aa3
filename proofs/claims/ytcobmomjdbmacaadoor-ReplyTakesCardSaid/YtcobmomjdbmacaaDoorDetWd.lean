/- Walks through regions whose order is drawn. -/
import Derived.Test.YtcobmomjdbmacaaDoorDetWp
import Derived.Test.YtcobmomjdbmacaaDoorDetQuiet
set_option linter.unusedVariables false
set_option linter.unusedSimpArgs false
set_option linter.unusedSectionVars false
namespace Go.Det

def Wd (F : FTab) (l : List DOper) (ts : List AV) (h : H) (pe : Pend) (Q : List AV → H → Prop) : Prop := ∃ n ts' h', runDraw (mach F n).call l ts h pe = some (ts', h') ∧ Q ts' h'

section
variable {F : FTab}

theorem draw_iff {l : List DOper} {ts : List AV} {h : H} {Q : Ex → St → Prop} : Wp F (.draw l) (ts, h) Q ↔ Wd F l ts h [] (fun ts' h' => Q .normal (ts', h')) := by
  constructor
  · rintro ⟨n, e, s', h1, h2⟩
    simp only [exec, Option.map_eq_some_iff, Prod.mk.injEq] at h1
    obtain ⟨⟨ts', h'⟩, h3, rfl, rfl⟩ := h1
    exact ⟨n, ts', h', h3, h2⟩
  · rintro ⟨n, ts', h', h1, h2⟩
    exact ⟨n, .normal, (ts', h'), by simp only [exec, h1]; rfl, h2⟩

theorem wd_nil {ts : List AV} {h : H} {pe : Pend} {Q : List AV → H → Prop} : Wd F [] ts h pe Q ↔ pe.holds h = true ∧ Q ts h := by
  constructor
  · rintro ⟨n, ts', h', h1, h2⟩
    simp only [runDraw] at h1
    split at h1
    · rename_i hp
      simp only [Option.some.injEq, Prod.mk.injEq] at h1
      obtain ⟨rfl, rfl⟩ := h1
      exact ⟨hp, h2⟩
    · simp at h1
  · rintro ⟨hp, hq⟩
    exact ⟨0, ts, h, by simp only [runDraw, hp, if_true], hq⟩

theorem ans_iff {op : IOp} {ts : List AV} {h : H} {K : AV → H → Prop} : ansQ F (iop op (ev ts) h) h K ↔ ∃ n v h', oneOp (mach F n).call op ts h = some (v, h') ∧ K v h' := by
  unfold ansQ
  constructor
  · intro hq
    split at hq
    · rename_i v h' hi; exact ⟨0, v, h', by simp only [oneOp, hi], hq⟩
    · rename_i f args hi
      obtain ⟨v, h', ⟨n, h1⟩, h2⟩ := hq
      exact ⟨n, v, h', by simp only [oneOp, hi]; exact h1, h2⟩
    · exact hq.elim
  · rintro ⟨n, v, h', h1, h2⟩
    unfold oneOp at h1
    split at h1
    · rename_i hi
      simp only [Option.some.injEq, Prod.mk.injEq] at h1
      obtain ⟨rfl, rfl⟩ := h1
      rw [hi]; exact h2
    · rename_i hi; rw [hi]; exact ⟨v, h', ⟨n, h1⟩, h2⟩
    · simp at h1

theorem wd_quiet {d : Option Nat} {op : IOp} {g : Option (Nat × Bool)} {id mask : Nat} {l : List DOper} {ts : List AV} {h : H} {pe : Pend} {Q : List AV → H → Prop} :
    Wd F (⟨⟨d, op, g⟩, false, id, mask⟩ :: l) ts h pe Q ↔ if wanted g ts = true then ansQ F (iop op (ev ts) h) h (fun v h' => Wd F l (put ts d v) h' (pe.add ts ⟨⟨d, op, g⟩, false, id, mask⟩ v) Q) else Wd F l (put ts d .undef) h pe Q := by
  constructor
  · rintro ⟨n, ts', h', h1, h2⟩
    simp only [runDraw, Bool.false_eq_true, if_false] at h1
    split at h1
    · rename_i hw
      rw [if_pos hw, ans_iff]
      split at h1
      · rename_i v h3 ho; exact ⟨n, v, h3, ho, n, ts', h', h1, h2⟩
      · simp at h1
    · rename_i hw
      rw [if_neg hw]
      exact ⟨n, ts', h', h1, h2⟩
  · intro hq
    split at hq
    · rename_i hw
      rw [ans_iff] at hq
      obtain ⟨n, v, h3, ho, m, ts', h', h1, h2⟩ := hq
      refine ⟨max n m, ts', h', ?_, h2⟩
      simp only [runDraw, Bool.false_eq_true, if_false, hw, if_true, oneOp_mono (mach_le F (Nat.le_max_left n m)).1 ho]
      exact runDraw_mono (mach_le F (Nat.le_max_right n m)).1 _ _ _ _ _ h1
    · rename_i hw
      obtain ⟨n, ts', h', h1, h2⟩ := hq
      refine ⟨n, ts', h', ?_, h2⟩
      simp only [runDraw, Bool.false_eq_true, if_false]
      rw [if_neg hw]
      exact h1

theorem wd_act {d : Option Nat} {op : IOp} {g : Option (Nat × Bool)} {id mask : Nat} {l : List DOper} {ts : List AV} {h : H} {pe : Pend} {Q : List AV → H → Prop} :
    Wd F (⟨⟨d, op, g⟩, true, id, mask⟩ :: l) ts h pe Q ↔ pe.holds h = true ∧ if wanted g ts = true then ansQ F (iop op (ev ts) h) h (fun v h' => Wd F l (put ts d v) h' (pe.filter fun p => !mask.testBit p.2.2) Q) else Wd F l (put ts d .undef) h (pe.filter fun p => !mask.testBit p.2.2) Q := by
  constructor
  · rintro ⟨n, ts', h', h1, h2⟩
    simp only [runDraw, if_true] at h1
    split at h1
    · rename_i hp
      refine ⟨hp, ?_⟩
      split at h1
      · rename_i hw
        rw [if_pos hw, ans_iff]
        split at h1
        · rename_i v h3 ho; exact ⟨n, v, h3, ho, n, ts', h', h1, h2⟩
        · simp at h1
      · rename_i hw
        rw [if_neg hw]
        exact ⟨n, ts', h', h1, h2⟩
    · simp at h1
  · rintro ⟨hp, hq⟩
    split at hq
    · rename_i hw
      rw [ans_iff] at hq
      obtain ⟨n, v, h3, ho, m, ts', h', h1, h2⟩ := hq
      refine ⟨max n m, ts', h', ?_, h2⟩
      simp only [runDraw, if_true, hp, hw, oneOp_mono (mach_le F (Nat.le_max_left n m)).1 ho]
      exact runDraw_mono (mach_le F (Nat.le_max_right n m)).1 _ _ _ _ _ h1
    · rename_i hw
      obtain ⟨n, ts', h', h1, h2⟩ := hq
      refine ⟨n, ts', h', ?_, h2⟩
      simp only [runDraw, if_true, hp]
      rw [if_neg hw]
      exact h1

theorem Wd_congr {l : List DOper} {ts ts' : List AV} {h h' : H} {pe pe' : Pend} {Q : List AV → H → Prop} (e : ts = ts') (e' : h = h') (e2 : pe = pe') : Wd F l ts h pe Q = Wd F l ts' h' pe' Q := by rw [e, e', e2]

theorem holds_nil (h : H) : Pend.holds [] h = true := rfl
theorem holds_cons {r : IOp} {v : AV} {i : Nat} {pe : Pend} {h : H} : Pend.holds ((r, v, i) :: pe) h = true ↔ readsAs r v h = true ∧ Pend.holds pe h = true := by simp [Pend.holds]
/-- A reader that reads the same. -/
theorem reads_ok {r : IOp} {v : AV} {h h' : H} (hi : iop r (ev []) h = some (.val v h')) : readsAs r v h = true := by
  unfold readsAs; rw [hi]; exact same_refl v
end
end Go.Det
