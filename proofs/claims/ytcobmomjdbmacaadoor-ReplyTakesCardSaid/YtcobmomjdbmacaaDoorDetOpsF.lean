/- Maps whose keys are strings or whole numbers: each operation against the real one. -/
import Derived.Test.YtcobmomjdbmacaaDoorDetOpsE
set_option linter.unusedVariables false
set_option linter.unusedSimpArgs false
set_option linter.unusedSectionVars false
namespace Go.Det
open Go.RowKit

section
variable {P : Program} {μ : Mu} {w0 : World} {ng : Nat} {h : H} {w : World}

/-- How keys of a kind are held against each other. -/
def KeyD (k : TypeDesc) (d : EqD) : Prop := (k = .string ∧ d = .str) ∨ ∃ q, k = .int q ∧ d = .num

theorem key_now {d : EqD} {kind : TypeDesc} (hk : KeyD kind d) {a b : AV} {r : Bool} (hr : eqv 1 d a b = some r) {a' b' : Value} (ha : VRel μ a a') (hb : VRel μ b b') : Instr.sameNow kind a' b' = some r ∧ (r = true → b' = a' ∧ Instr.sameBits 10000 b' a' = true) := by
  rcases hk with ⟨rfl, rfl⟩ | ⟨q, rfl, rfl⟩
  · cases a <;> cases b <;> simp only [eqv, Option.some.injEq, reduceCtorEq] at hr
    subst hr; cases ha; cases hb
    refine ⟨by simp [Instr.sameNow, ba_beq], fun e => ?_⟩
    have := eq_of_beq e
    subst this
    exact ⟨rfl, by simp [Instr.sameBits, ba_beq]⟩
  · cases a <;> cases b <;> simp only [eqv, reduceCtorEq] at hr
    split at hr
    · rename_i hk; subst hk
      simp only [Option.some.injEq] at hr
      subst hr; cases ha; cases hb
      refine ⟨by simp [Instr.sameNow], fun e => ?_⟩
      have := eq_of_beq e
      subst this
      exact ⟨rfl, by simp [Instr.sameBits]⟩
    · simp at hr

theorem find_now {d : EqD} {kind : TypeDesc} (hk : KeyD kind d) {k : AV} {k' : Value} (hkk : VRel μ k k') : ∀ (es : List (AV × AV × Nat)) (l : List MapEntry) (i : Nat) {r : Option (Nat × AV)}, ERels μ es l → Det.findKey d k es i = some r →
    match r with
    | none => Instr.findNow kind k' l i = some none
    | some (j, v) => ∃ v' e e', Instr.findNow kind k' l i = some (some (j, v')) ∧ VRel μ v v' ∧ i ≤ j ∧ getL es (j - i) = some e ∧ l[j - i]? = some e' ∧ e'.key = k' ∧ Instr.sameBits 10000 e'.key k' = true
  | [], l, i, r, hE, hf => by
    simp only [Det.findKey, Option.some.injEq] at hf
    subst hf
    obtain rfl : l = [] := hE
    rfl
  | (k0, v0, n0) :: es, l, i, r, hE, hf => by
    obtain ⟨e, y, rfl, h1, h2, h3, h4⟩ := hE
    simp only [Det.findKey] at hf
    split at hf
    · rename_i hq
      simp only [Option.some.injEq] at hf
      subst hf
      obtain ⟨g1, g2⟩ := key_now hk hq hkk h1
      obtain ⟨g3, g4⟩ := g2 rfl
      exact ⟨e.val, (k0, v0, n0), e, by simp [Instr.findNow, g1], h2, Nat.le_refl _, by simp [getL], by simp, g3, g4⟩
    · rename_i hq
      obtain ⟨g1, _⟩ := key_now hk hq hkk h1
      have ih := find_now hk hkk es y (i + 1) h4 hf
      cases r with
      | none => simp only [Instr.findNow, g1]; exact ih
      | some jv =>
        obtain ⟨j, v⟩ := jv
        obtain ⟨v', e1, e', q1, q2, q3, q4, q5, q6, q7⟩ := ih
        have hj : j - i = (j - (i + 1)) + 1 := by omega
        refine ⟨v', e1, e', by simp only [Instr.findNow, g1]; exact q1, q2, by omega, ?_, ?_, q6, q7⟩
        · rw [hj]; simpa [getL] using q4
        · rw [hj]; simpa using q5
    · simp at hf

theorem run_getObj' {r : Nat} {es : Array MapEntry} {c : Nat} (hr : w.heap[r]? = some (.map es c)) : (getObj r).run P w = .ok (.map es c) w := by simp [getObj, Sem.run, hr]

theorem check_key' {kt : TypeId} {kind : TypeDesc} (ht : P.underlying kt = some kind) {d : EqD} (hk : KeyD kind d) (b : Bool) (v : Value) (n : Nat) : (Instr.checkKey b (n + 1) kt v).run P w = .ok () w := by
  rcases hk with ⟨rfl, _⟩ | ⟨q, rfl, _⟩
  · simp only [Instr.checkKey, Sem.run_bind, run_underlying ht, Result.andThen_ok]
    rfl
  · simp only [Instr.checkKey, Sem.run_bind, run_underlying ht, Result.andThen_ok]
    rfl

theorem check_key {kt : TypeId} {kind : TypeDesc} (ht : P.underlying kt = some kind) {d : EqD} (hk : KeyD kind d) (b : Bool) (v : Value) : (Instr.checkKey b 10000 kt v).run P w = .ok () w := check_key' ht hk b v 9999

theorem find_key {kt : TypeId} {kind : TypeDesc} (ht : P.underlying kt = some kind) {k' : Value} {l : List MapEntry} {r : Option (Nat × Value)} (hf : Instr.findNow kind k' l 0 = some r) : (Instr.findKey kt k' l).run P w = .ok r w := by
  simp only [Instr.findKey, Sem.run_bind, run_underlying ht, Result.andThen_ok, hf, Sem.run_pure]

/-- An element is asked for. -/
theorem look_pl {t kt e : TypeId} (ht : P.underlying t = some (.map kt e)) {kind : TypeDesc} (hkt : P.underlying kt = some kind) {d : EqD} (hk : KeyD kind d) {z : AV} (hz : zeroT P e = some z) (W : WRel μ w0 ng h w) {x k : AV} (okq : Bool) {v : AV}
    (hv : (match x with
      | .nilm => some (if okq then .tup [z, .bool false] else z)
      | .map r => match h.get r with
        | some (.map es _) => match Det.findKey d k es 0 with
          | some (some (_, v)) => some (if okq then .tup [v, .bool true] else v)
          | some none => some (if okq then .tup [z, .bool false] else z)
          | none => none
        | _ => none
      | _ => none) = some v) {x' k' : Value} (hx : VRel μ x x') (hkk : VRel μ k k') : Pl P μ w (Instr.lookup t x' k' okq) v := by
  obtain ⟨zv, hz1, hz2⟩ := zeroT_rel (P := P) (μ := μ) (w := w) hz
  have fin : ∀ (a : AV) (a' : Value) (b : Bool), VRel μ a a' → VRel μ (if okq then .tup [a, .bool b] else a) (if okq then .tuple #[a', .bool b] else a') := by
    intro a a' b ha
    cases okq
    · exact ha
    · exact ⟨#[a', .bool b], rfl, ⟨_, _, rfl, ha, _, _, rfl, rfl, rfl⟩⟩
  cases x <;> simp only [reduceCtorEq] at hv
  · -- none
    obtain rfl : x' = .map none := hx
    simp only [Option.some.injEq] at hv
    subst hv
    refine ⟨if okq then .tuple #[zv, .bool false] else zv, ?_, fin _ _ _ hz2⟩
    simp only [Instr.lookup, Sem.run_bind, run_underlying ht, Result.andThen_ok, Sem.run_pure, check_key hkt hk]
    have hf : (Instr.findKey kt k' (#[] : Array MapEntry).toList).run P w = .ok none w := find_key hkt rfl
    simp only [hf, Result.andThen_ok, hz1, Sem.run_bind, Sem.run_pure]
  · rename_i r
    obtain ⟨rb, hm, rfl⟩ := hx
    split at hv
    · rename_i es clock hg
      obtain ⟨o, h1, h2⟩ := W.obj hg rfl rfl hm
      obtain ⟨es', rfl, hE⟩ := h2
      have hget : (getObj rb.r).run P w = .ok (.map es' clock) w := run_getObj' h1
      split at hv
      · rename_i j u hf
        simp only [Option.some.injEq] at hv
        subst hv
        obtain ⟨v', _, _, q1, q2, _⟩ := find_now hk hkk es es'.toList 0 hE hf
        refine ⟨if okq then .tuple #[v', .bool true] else v', ?_, fin _ _ _ q2⟩
        simp only [Instr.lookup, Sem.run_bind, run_underlying ht, Result.andThen_ok, hget, Sem.run_pure, check_key hkt hk, find_key hkt q1]
      · rename_i hf
        simp only [Option.some.injEq] at hv
        subst hv
        have q1 := find_now hk hkk es es'.toList 0 hE hf
        refine ⟨if okq then .tuple #[zv, .bool false] else zv, ?_, fin _ _ _ hz2⟩
        simp only [Instr.lookup, Sem.run_bind, run_underlying ht, Result.andThen_ok, hget, Sem.run_pure, check_key hkt hk, find_key hkt q1, hz1]
      · simp at hv
    · simp at hv

theorem ERels.modify : ∀ (es : List (AV × AV × Nat)) (l : List MapEntry) (i : Nat) {k0 v0 : AV} {n : Nat} {k v : AV} {k' v' : Value}, ERels μ es l → getL es i = some (k0, v0, n) → VRel μ k k' → VRel μ v v' → ERels μ (setL es i (k, v, n)) (l.modify i fun e => { e with key := k', val := v' })
  | [], l, i, k0, v0, n, k, v, k', v', hE, hg, hk, hv => by simp [getL] at hg
  | (k1, v1, n1) :: es, l, 0, k0, v0, n, k, v, k', v', hE, hg, hk, hv => by
    obtain ⟨e, y, rfl, h1, h2, h3, h4⟩ := hE
    simp only [getL, Option.some.injEq, Prod.mk.injEq] at hg
    obtain ⟨_, _, rfl⟩ := hg
    exact ⟨{ e with key := k', val := v' }, y, by simp, hk, hv, h3, h4⟩
  | (k1, v1, n1) :: es, l, i + 1, k0, v0, n, k, v, k', v', hE, hg, hk, hv => by
    obtain ⟨e, y, rfl, h1, h2, h3, h4⟩ := hE
    simp only [getL] at hg
    exact ⟨e, y.modify i fun e => { e with key := k', val := v' }, by simp, h1, h2, h3, ERels.modify es y i h4 hg hk hv⟩
theorem ERels.snoc : ∀ (es : List (AV × AV × Nat)) (l : List MapEntry) {n : Nat} {k v : AV} {k' v' : Value}, ERels μ es l → VRel μ k k' → VRel μ v v' → ERels μ (es ++ [(k, v, n)]) (l ++ [{ key := k', val := v', born := n }])
  | [], l, n, k, v, k', v', hE, hk, hv => by
    obtain rfl : l = [] := hE
    exact ⟨_, [], rfl, hk, hv, rfl, rfl⟩
  | (k1, v1, n1) :: es, l, n, k, v, k', v', hE, hk, hv => by
    obtain ⟨e, y, rfl, h1, h2, h3, h4⟩ := hE
    exact ⟨e, y ++ [{ key := k', val := v', born := n }], rfl, h1, h2, h3, ERels.snoc es y h4 hk hv⟩

/-- An element is laid down. -/
theorem upd_rs {t kt e : TypeId} (ht : P.underlying t = some (.map kt e)) {kind : TypeDesc} (hkt : P.underlying kt = some kind) {d : EqD} (hk : KeyD kind d) (W : WRel μ w0 ng h w) {r : Nat} {k u : AV} {x' k' u' : Value} (hx : VRel μ (.map r) x') (hkk : VRel μ k k') (hu : VRel μ u u') {h' : H}
    (hv : (match h.get r with
      | some (.map es clock) => match Det.findKey d k es 0 with
        | some (some (i, _)) => match getL es i with
          | some (_, _, born) => some (h.set r (.map (setL es i (k, u, born)) clock))
          | none => none
        | some none => some (h.set r (.map (es ++ [(k, u, clock)]) (clock + 1)))
        | none => none
      | _ => none) = some h') : ∃ w', (Instr.mapUpdate t x' k' u').run P w = .ok () w' ∧ WRel μ w0 ng h' w' ∧ Adv μ h w μ h' w' := by
  obtain ⟨rb, hm, rfl⟩ := hx
  split at hv
  · rename_i es clock hg
    obtain ⟨o, h1, h2⟩ := W.obj hg rfl rfl hm
    obtain ⟨es', rfl, hE⟩ := h2
    have hget : (getObj rb.r).run P w = .ok (.map es' clock) w := run_getObj' h1
    have hlt := (W.dom _ _ _ hm).1
    have hset : ∀ o', (setObj rb.r o').run P w = .ok () { w with heap := w.heap.setIfInBounds rb.r o' } := fun o' => by
      simp [setObj, Sem.run, h1]
    split at hv
    · rename_i j u0 hf
      obtain ⟨v', e1, e', q1, q2, _, q4, q5, q6, q7⟩ := find_now hk hkk es es'.toList 0 hE hf
      rw [Nat.sub_zero] at q4 q5
      split at hv
      · rename_i a0 b0 born hgl
        simp only [Option.some.injEq] at hv
        subst hv
        have q5' : es'[j]? = some e' := by simpa using q5
        have hW := W.setObj (B' := .map (setL es j (k, u, born)) clock) hg rfl rfl rfl rfl hm (o := .map (es'.modify j fun e => { e with key := k', val := u' }) clock) ⟨_, rfl, by rw [Array.toList_modify]; exact ERels.modify es _ j hE hgl hkk hu⟩
        refine ⟨_, ?_, hW⟩
        have hst : (Instr.keyThatStays e'.key k').run P w = .ok k' w := by
          unfold Instr.keyThatStays
          rw [if_pos q7]; rfl
        simp only [Instr.mapUpdate, Sem.run_bind, run_underlying ht, Result.andThen_ok, hget, check_key hkt hk, find_key hkt q1, q5', Option.map_some, Option.getD_some, hst, hset]
      · simp at hv
    · rename_i hf
      have q1 := find_now hk hkk es es'.toList 0 hE hf
      simp only [Option.some.injEq] at hv
      subst hv
      have hW := W.setObj (B' := .map (es ++ [(k, u, clock)]) (clock + 1)) hg rfl rfl rfl rfl hm (o := .map (es'.push { key := k', val := u', born := clock }) (clock + 1)) ⟨_, rfl, by rw [Array.toList_push]; exact ERels.snoc es _ hE hkk hu⟩
      refine ⟨_, ?_, hW⟩
      simp only [Instr.mapUpdate, Sem.run_bind, run_underlying ht, Result.andThen_ok, hget, check_key hkt hk, find_key hkt q1, hset]
    · simp at hv
  · simp at hv

/-- What the machine's own operations say. -/
theorem iop_look {d : EqD} {z : AV} {okq : Bool} {x i : IX} {ρ : IX → AV} {h h' : H} {v : AV} (hi : iop (.look d z okq x i) ρ h = some (.val v h')) :
    h' = h ∧ (match ρ x with
      | .nilm => some (if okq then .tup [z, .bool false] else z)
      | .map r => match h.get r with
        | some (.map es _) => match Det.findKey d (ρ i) es 0 with
          | some (some (_, v)) => some (if okq then .tup [v, .bool true] else v)
          | some none => some (if okq then .tup [z, .bool false] else z)
          | none => none
        | _ => none
      | _ => none) = some v := by
  simp only [iop] at hi
  split at hi
  · rename_i e
    simp only [Option.some.injEq, Ans.val.injEq] at hi
    rw [e]
    exact ⟨hi.2.symm, by rw [hi.1]⟩
  · rename_i r e
    split at hi
    · rename_i es c hg
      split at hi
      · rename_i j u hf
        simp only [Option.some.injEq, Ans.val.injEq] at hi
        simp only [e, hg, hf]
        exact ⟨hi.2.symm, by rw [hi.1]⟩
      · rename_i hf
        simp only [Option.some.injEq, Ans.val.injEq] at hi
        simp only [e, hg, hf]
        exact ⟨hi.2.symm, by rw [hi.1]⟩
      · simp at hi
    · simp at hi
  · simp at hi
theorem iop_upd {d : EqD} {x k y : IX} {ρ : IX → AV} {h h' : H} {v : AV} (hi : iop (.upd d x k y) ρ h = some (.val v h')) :
    v = .undef ∧ ∃ r, ρ x = .map r ∧ (match h.get r with
      | some (.map es clock) => match Det.findKey d (ρ k) es 0 with
        | some (some (i, _)) => match getL es i with
          | some (_, _, born) => some (h.set r (.map (setL es i (ρ k, ρ y, born)) clock))
          | none => none
        | some none => some (h.set r (.map (es ++ [(ρ k, ρ y, clock)]) (clock + 1)))
        | none => none
      | _ => none) = some h' := by
  simp only [iop] at hi
  split at hi
  · rename_i r e
    split at hi
    · rename_i es c hg
      split at hi
      · rename_i j u hf
        split at hi
        · rename_i a b born hgl
          simp only [Option.some.injEq, Ans.val.injEq] at hi
          exact ⟨hi.1.symm, r, e, by simp only [hg, hf, hgl, hi.2]⟩
        · simp at hi
      · rename_i hf
        simp only [Option.some.injEq, Ans.val.injEq] at hi
        exact ⟨hi.1.symm, r, e, by simp only [hg, hf, hi.2]⟩
      · simp at hi
    · simp at hi
  · simp at hi

end
end Go.Det
