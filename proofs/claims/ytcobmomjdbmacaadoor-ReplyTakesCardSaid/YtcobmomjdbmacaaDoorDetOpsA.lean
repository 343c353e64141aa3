/- The deterministic machine's operations that touch no memory: each against the real one. -/
import Derived.Test.YtcobmomjdbmacaaDoorDetMem
import Derived.Test.YtcobmomjdbmacaaDoorDetComp
import Derived.Laws.Entries
import Derived.ChangeKeysEq
import Derived.Laws.StructEq
set_option linter.unusedVariables false
set_option linter.unusedSimpArgs false
set_option linter.unusedSectionVars false
namespace Go.Det
open Go.RowKit

section
variable {P : Program} {μ : Mu} {w : World}

/-- A plain step: the answer, the world as it was. -/
def Pl (P : Program) (μ : Mu) (w : World) (s : Sem Value) (v : AV) : Prop := ∃ v', s.run P w = .ok v' w ∧ VRel μ v v'

theorem run_info {t : TypeId} {i : TypeInfo} (h : P.info? t = some i) : (typeInfo t).run P w = .ok i w := by simp [typeInfo, h]
theorem run_size {t : TypeId} {n : Nat} (h : sizeT P t = some n) : (sizeOf t).run P w = .ok n w := by
  unfold sizeT at h
  obtain ⟨i, h1, rfl⟩ := Option.map_eq_some_iff.1 h
  simp [sizeOf, run_info h1]

theorem aggT_none {t : TypeId} (h : aggT P t = some none) : (isAgg t).run P w = .ok false w := by
  unfold aggT at h
  split at h <;> simp at h
  rename_i d i h1 h2 h3 h4
  simp only [isAgg, Sem.run_bind, run_underlying h3, Result.andThen_ok]
  cases d <;> first | rfl | (exact absurd h3 (h1 _ _)) | (exact absurd h3 (h2 _ _ _))
theorem aggT_some {t : TypeId} {n : Nat} (h : aggT P t = some (some n)) : (isAgg t).run P w = .ok true w ∧ (sizeOf t).run P w = .ok n w := by
  unfold aggT at h
  split at h <;> simp at h
  · rename_i h1 h2
    subst h
    exact ⟨by simp [isAgg, run_underlying h1], by simp [sizeOf, run_info h2]⟩
  · rename_i h1 h2
    subst h
    exact ⟨by simp [isAgg, run_underlying h1], by simp [sizeOf, run_info h2]⟩

theorem bytes_list (x : ByteArray) : x.toList = x.data.toList := by
  have go : ∀ (n i : Nat) (acc : List UInt8), x.size - i = n → ByteArray.toList.loop x i acc = acc.reverse ++ x.data.toList.drop i := by
    intro n
    induction n with
    | zero =>
      intro i acc h
      unfold ByteArray.toList.loop
      rw [if_neg (by omega), List.drop_eq_nil_of_le (by simpa using (by omega : x.size ≤ i)), List.append_nil]
    | succ n ih =>
      intro i acc h
      have hlt : i < x.data.toList.length := by simpa using (by omega : i < x.size)
      unfold ByteArray.toList.loop
      rw [if_pos (by omega), ih (i + 1) _ (by omega), List.drop_eq_getElem_cons hlt]
      have : x.get! i = x.data.toList[i] := by
        show x.data[i]! = _
        simp only [Array.length_toList] at hlt
        simp [getElem!_pos x.data i hlt]
      simp [this]
  exact (go x.size 0 [] (by simp)).trans (by simp)

theorem ofVal_rel (μ : Mu) : ∀ (n : Nat), (∀ v a, ofVal n v = some a → VRel μ a v) ∧ (∀ l a, ofVals n l = some a → VRels μ a l)
  | 0 => ⟨by intro v a h; simp [ofVal] at h, by intro v a h; simp [ofVals] at h⟩
  | n + 1 => by
    obtain ⟨ih1, ih2⟩ := ofVal_rel μ n
    refine ⟨?_, ?_⟩
    · intro v a h
      cases v with
      | bool b => simp only [ofVal, Option.some.injEq] at h; subst h; rfl
      | int k x => simp only [ofVal, Option.some.injEq] at h; subst h; rfl
      | string s => simp only [ofVal, Option.some.injEq] at h; subst h; simp [VRel]
      | pointer a => cases a <;> simp only [ofVal, Option.some.injEq, reduceCtorEq] at h; subst h; rfl
      | slice a len cap =>
        cases a with
        | none => cases len <;> cases cap <;> simp only [ofVal, Option.some.injEq, reduceCtorEq] at h; subst h; rfl
        | some a => simp [ofVal] at h
      | map r => cases r <;> simp only [ofVal, Option.some.injEq, reduceCtorEq] at h; subst h; rfl
      | func f x y =>
        simp only [ofVal] at h
        split at h
        · rename_i a b h1 h2
          split at h
          · simp at h
          · simp only [Option.some.injEq] at h; subst h; exact ⟨_, _, rfl, ih2 _ _ h1, ih2 _ _ h2⟩
        · simp at h
      | nilFunc => simp only [ofVal, Option.some.injEq] at h; subst h; rfl
      | nilIface => simp only [ofVal, Option.some.injEq] at h; subst h; rfl
      | iface t v => simp only [ofVal, Option.map_eq_some_iff] at h; obtain ⟨a, h1, rfl⟩ := h; exact ⟨_, rfl, ih1 _ _ h1⟩
      | agg cs => simp only [ofVal, Option.map_eq_some_iff] at h; obtain ⟨a, h1, rfl⟩ := h; exact ⟨_, rfl, ih2 _ _ h1⟩
      | tuple cs => simp only [ofVal, Option.map_eq_some_iff] at h; obtain ⟨a, h1, rfl⟩ := h; exact ⟨_, rfl, ih2 _ _ h1⟩
      | float k b => simp [ofVal] at h
      | complex k a b => simp [ofVal] at h
      | chan r => simp [ofVal] at h
    · intro l a h
      cases l with
      | nil => simp only [ofVals, Option.some.injEq] at h; subst h; rfl
      | cons v l =>
        simp only [ofVals] at h
        split at h
        · rename_i x r h1 h2
          simp only [Option.some.injEq] at h; subst h; exact ⟨_, _, rfl, ih1 _ _ h1, ih2 _ _ h2⟩
        · simp at h

theorem zeroT_rel {t : TypeId} {z : AV} (h : zeroT P t = some z) : ∃ v, (zeroValue t).run P w = .ok v w ∧ VRel μ z v := by
  unfold zeroT at h
  split at h
  · rename_i i h1
    obtain ⟨v, h2, h3⟩ := Option.bind_eq_some_iff.1 h
    exact ⟨v, by simp [zeroValue, run_info h1, h2], (ofVal_rel μ big).1 _ _ h3⟩
  · simp at h

theorem cells_rel {a : AV} {v : Value} (h : VRel μ a v) : VRels μ a.cells v.cells.toList := by
  cases a with
  | agg cs => obtain ⟨vs, rfl, h⟩ := h; exact h
  | _ => 
    have hv : v.cells = #[v] := by
      first
        | (cases h; rfl)
        | (obtain ⟨rb, _, rfl⟩ := h; rfl)
        | (obtain ⟨x, y, rfl, _⟩ := h; rfl)
        | (rename_i a n c; cases c with
           | ex c => rcases h with ⟨rb, _, rfl, _⟩ | ⟨_, _, ad, rfl⟩ <;> rfl
           | op e => obtain ⟨rb, o, c, _, rfl, _⟩ := h; rfl)
        | (obtain ⟨x, rfl, _⟩ := h; rfl)
        | (rename_i a n c; cases c <;> first | (obtain ⟨rb, _, rfl, _⟩ := h; rfl) | (obtain ⟨rb, o, c, _, rfl, _⟩ := h; rfl))
    rw [hv]; exact ⟨v, [], rfl, h, rfl⟩

theorem part_rel {t : TypeId} {sz : Option Nat} (ht : aggT P t = some sz) {cs : List AV} {vs : Array Value} (hc : VRels μ cs vs.toList) {off : Nat} {v : AV} (hp : Det.part cs off sz = some v) :
    Pl P μ w (Go.part t vs off) v := by
  cases sz with
  | none =>
    obtain ⟨u, h1, h2⟩ := hc.get hp
    have h1' : vs[off]? = some u := by simpa using h1
    exact ⟨u, by simp [Go.part, aggT_none ht, h1'], h2⟩
  | some n =>
    simp only [Det.part, Option.some.injEq] at hp
    subst hp
    refine ⟨.agg (vs.extract off (off + n)), by simp [Go.part, (aggT_some ht).1, (aggT_some ht).2], _, rfl, ?_⟩
    have := (hc.drop off).take n
    rw [Array.toList_extract]
    simpa [List.extract_eq_take_drop] using this

/-! ### Numbers, strings -/

theorem ba_size (x : List UInt8) : (⟨x.toArray⟩ : ByteArray).size = x.length := rfl
theorem ba_append (x y : List UInt8) : (⟨x.toArray⟩ : ByteArray) ++ ⟨y.toArray⟩ = ⟨(x ++ y).toArray⟩ := by
  apply ByteArray.ext; simp [ByteArray.data_append]
theorem ba_extract (x : List UInt8) (l h : Nat) : (⟨x.toArray⟩ : ByteArray).extract l h = ⟨((x.take h).drop l).toArray⟩ := by
  apply ByteArray.ext
  simp [ByteArray.data_extract, List.drop_take]

theorem binop_rel {op : BinOp} {a b r : AV} (hr : binop op a b = some r) {a' b' : Value} (ha : VRel μ a a') (hb : VRel μ b b') (t : TypeId) (X Y : Operand) :
    Pl P μ w (do eqGuard op t X Y a' b'; binOp op t a' b') r := by
  cases a <;> cases b <;> simp only [binop, reduceCtorEq] at hr
  · rename_i k x k' y
    cases ha; cases hb
    cases op <;> simp only [] at hr <;> (try (split at hr <;> simp only [reduceCtorEq] at hr)) <;>
      simp only [binInt, shInt] at hr <;> (try (split at hr <;> simp only [reduceCtorEq] at hr)) <;> (try (simp only [Option.some.injEq, reduceCtorEq] at hr)) <;> (try subst hr) <;>
      simp_all [Pl, eqGuard, binOp, Op.intArith, Op.intDiv, Op.intBits, Op.intCmp, Op.shift, VRel]
    all_goals first
      | (obtain ⟨_, rfl⟩ := hr; rfl)
      | (obtain ⟨_, _, rfl⟩ := hr; rfl)
      | (obtain ⟨h0, rfl⟩ := hr; rw [if_neg (by omega)]; exact ⟨_, rfl, rfl⟩)
  · rename_i x y
    cases ha; cases hb
    cases op <;> simp only [binStr, Option.some.injEq, reduceCtorEq] at hr <;> (try (split at hr <;> simp only [Option.some.injEq, reduceCtorEq] at hr)) <;> (try subst hr) <;>
      simp_all [Pl, eqGuard, binOp, Op.stringOp, VRel, bytes_list]
    rename_i h
    rw [ba_size, ba_size, if_neg (by omega), ba_append]

theorem unop_rel {op : UnOp} {a r : AV} (hr : unop op a = some r) {a' : Value} (ha : VRel μ a a') : Pl P μ w (Op.unary op a') r := by
  cases op <;> cases a <;> simp only [unop, binInt, Option.some.injEq, reduceCtorEq] at hr <;> subst hr <;> cases ha <;>
    simp [Pl, Op.unary, Op.intArith, Op.intBits, VRel]

theorem asI_rel {a : AV} {n : Int} (h : asI a = some n) {v : Value} (hv : VRel μ a v) : ∃ k, v = .int k n := by
  cases a <;> simp only [asI, Option.some.injEq, reduceCtorEq] at h
  subst h; cases hv; exact ⟨_, rfl⟩

/-! ### Held against each other -/

def EqD.flat : EqD → Bool
  | .st _ => false
  | .arr .. => false
  | _ => true

theorem sl_of {a : AA} {n : Nat} {c : Cp} {v : Value} (h : VRel μ (.sl a n c) v) : ∃ ad k, v = .slice (some ad) n k := by
  cases c with
  | ex c =>
    rcases h with ⟨rb, _, rfl, _⟩ | ⟨rfl, _, ad, rfl⟩
    · exact ⟨_, _, rfl⟩
    · exact ⟨_, _, rfl⟩
  | op e => obtain ⟨rb, o, c, _, rfl, _⟩ := h; exact ⟨_, _, rfl⟩

theorem ba_beq (x y : List UInt8) : ((⟨x.toArray⟩ : ByteArray) == ⟨y.toArray⟩) = (x == y) := by
  show (x.toArray == y.toArray) = (x == y)
  simp

set_option maxHeartbeats 4000000 in
theorem eqv_rel {d : EqD} (hd : d.flat = true) {n f D : Nat} {t : TypeId} (ht : eqdOf P n t = some d) {a b : AV} {r : Bool} (hr : eqv f d a b = some r) {a' b' : Value} (ha : VRel μ a a') (hb : VRel μ b b') :
    (Op.equalIn (D + 1) t a' b').run P w = .ok r w := by
  cases f with
  | zero => simp [eqv] at hr
  | succ f =>
    cases n with
    | zero => simp [eqdOf] at ht
    | succ n =>
      simp only [eqdOf] at ht
      split at ht
      · rename_i hu
        simp only [Option.some.injEq] at ht; subst ht
        cases a <;> cases b <;> simp only [eqv, Option.some.injEq, reduceCtorEq] at hr
        subst hr; cases ha; cases hb
        simp [Op.equalIn, run_underlying hu]
      · rename_i hu
        simp only [Option.some.injEq] at ht; subst ht
        cases a <;> cases b <;> simp only [eqv, reduceCtorEq] at hr
        split at hr
        · rename_i hk; subst hk
          simp only [Option.some.injEq] at hr
          subst hr; cases ha; cases hb
          simp [Op.equalIn, run_underlying hu]
        · simp at hr
      · rename_i hu
        simp only [Option.some.injEq] at ht; subst ht
        cases a <;> cases b <;> simp only [eqv, Option.some.injEq, reduceCtorEq] at hr
        subst hr; cases ha; cases hb
        simp [Op.equalIn, run_underlying hu, ba_beq]
      · rename_i e hu
        split at ht
        · rename_i k hs
          simp only [Option.some.injEq] at ht; subst ht
          cases a <;> cases b <;> simp only [eqv, Option.some.injEq, reduceCtorEq] at hr
          · subst hr; cases ha; cases hb; simp [Op.equalIn, run_underlying hu]
          · subst hr; cases ha; obtain ⟨rb, _, rfl⟩ := hb; simp [Op.equalIn, run_underlying hu]
          · subst hr; cases hb; obtain ⟨rb, _, rfl⟩ := ha; simp [Op.equalIn, run_underlying hu]
          · rename_i x y
            split at hr
            · rename_i he
              simp only [Bool.and_eq_true, beq_iff_eq] at he
              simp only [Option.some.injEq] at hr
              subst hr
              obtain ⟨rb, h1, rfl⟩ := ha
              obtain ⟨rb', h2, rfl⟩ := hb
              rw [← he.1, ← he.2, h1] at h2
              cases h2
              simp only [Op.equalIn, Sem.run_bind, run_underlying hu, Result.andThen_ok, run_size hs, sameAddr]
              by_cases ho : x.o = y.o
              · simp [ho]
              · have hne : (⟨rb.r, x.o, none⟩ : Addr) ≠ ⟨rb.r, y.o, none⟩ := by simp [ho]
                simp [beq_eq_false_iff_ne.2 hne, beq_eq_false_iff_ne.2 ho]
            · simp at hr
        · simp at ht
      · rename_i hu
        simp only [Option.some.injEq] at ht; subst ht
        cases a <;> cases b <;> simp only [eqv, Option.some.injEq, reduceCtorEq] at hr
        · subst hr; cases ha; cases hb; simp [Op.equalIn, run_underlying hu]
        · subst hr; cases ha; obtain ⟨_, _, rfl⟩ := sl_of hb; simp [Op.equalIn, run_underlying hu]
        · subst hr; cases hb; obtain ⟨_, _, rfl⟩ := sl_of ha; simp [Op.equalIn, run_underlying hu]
      · rename_i hu
        simp only [Option.some.injEq] at ht; subst ht
        cases a <;> cases b <;> simp only [eqv, Option.some.injEq, reduceCtorEq] at hr
        · subst hr; cases ha; cases hb; simp [Op.equalIn, run_underlying hu]
        · subst hr; cases ha; obtain ⟨rb, _, rfl⟩ := hb; simp [Op.equalIn, run_underlying hu]
        · subst hr; cases hb; obtain ⟨rb, _, rfl⟩ := ha; simp [Op.equalIn, run_underlying hu]
      · rename_i hu
        simp only [Option.some.injEq] at ht; subst ht
        cases a <;> cases b <;> simp only [eqv, Option.some.injEq, reduceCtorEq] at hr
        · subst hr; cases ha; cases hb; simp [Op.equalIn, run_underlying hu]
        · subst hr; cases ha; obtain ⟨_, _, rfl, _⟩ := hb; simp [Op.equalIn, run_underlying hu]
        · subst hr; cases hb; obtain ⟨_, _, rfl, _⟩ := ha; simp [Op.equalIn, run_underlying hu]
      · rename_i hu
        simp only [Option.some.injEq] at ht; subst ht
        cases a <;> cases b <;> simp only [eqv, Option.some.injEq, reduceCtorEq] at hr
        · subst hr; cases ha; cases hb; simp [Op.equalIn, run_underlying hu]
        · subst hr; cases ha; obtain ⟨_, rfl, _⟩ := hb; simp [Op.equalIn, run_underlying hu]
        · subst hr; cases hb; obtain ⟨_, rfl, _⟩ := ha; simp [Op.equalIn, run_underlying hu]
      · split at ht
        · simp at ht
        · obtain ⟨_, _, rfl⟩ := Option.map_eq_some_iff.1 ht; simp [EqD.flat] at hd
      · split at ht
        · simp only [Option.some.injEq] at ht; subst ht; simp [EqD.flat] at hd
        · simp at ht
      · simp at ht

/-! Arrays and structs, element by element. -/

theorem agg_of {cs : List AV} {v : Value} (h : VRel μ (.agg cs) v) : ∃ vs, v = .agg vs ∧ VRels μ cs vs.toList := by
  obtain ⟨vs, h1, h2⟩ := h; exact ⟨vs, h1, h2⟩

theorem eqItems_rel {D sz : Nat} {ag : Option Nat} {e : TypeId} {d : EqD} (hs : sizeT P e = some sz) (ha : aggT P e = some ag)
    (IH : ∀ {f : Nat} {a b : AV} {r : Bool} {a' b' : Value}, eqv f d a b = some r → VRel μ a a' → VRel μ b b' → (Op.equalIn D e a' b').run P w = .ok r w)
    {xs ys : List AV} {xs' ys' : Array Value} (hx : VRels μ xs xs'.toList) (hy : VRels μ ys ys'.toList) :
    ∀ (m i f : Nat) {r : Bool}, eqArr f d sz ag.isSome xs ys i m = some r → (Op.eqItems D e (P.cellsOf e) xs' ys' (List.range' i m)).run P w = .ok r w := by
  have hcl : P.cellsOf e = sz := by
    unfold sizeT at hs
    obtain ⟨i, h1, h2⟩ := Option.map_eq_some_iff.1 hs
    simp [Program.cellsOf, h1, h2]
  have hag : (if ag.isSome = true then some sz else none) = ag := by
    unfold sizeT at hs
    obtain ⟨i, h1, h2⟩ := Option.map_eq_some_iff.1 hs
    unfold aggT at ha
    split at ha
    · rename_i j hj; rw [h1] at hj; cases hj; cases ha; simp [h2]
    · rename_i j hj; rw [h1] at hj; cases hj; cases ha; simp [h2]
    · cases ha; rfl
    · cases ha
  intro m
  induction m with
  | zero =>
    intro i f r h
    cases f with
    | zero => simp [eqArr] at h
    | succ f => simp only [eqArr, Option.some.injEq] at h; subst h; simp [Op.eqItems]
  | succ m ih =>
    intro i f r h
    cases f with
    | zero => simp [eqArr] at h
    | succ f =>
      simp only [eqArr] at h
      rw [hag] at h
      split at h
      · rename_i a b h1 h2
        obtain ⟨a', g1, k1⟩ := part_rel (P := P) (w := w) ha hx h1
        obtain ⟨b', g2, k2⟩ := part_rel (P := P) (w := w) ha hy h2
        rw [List.range'_succ]
        simp only [Op.eqItems, Sem.run_bind, hcl]
        rw [g1]
        simp only [Result.andThen_ok, g2]
        split at h
        · rename_i h3
          rw [IH h3 k1 k2]
          have := ih (i + 1) f h
          rw [hcl] at this
          simpa using this
        · rename_i hne
          rw [IH h k1 k2]
          cases r
          · simp
          · exact absurd h hne
      · simp at h

theorem eqFields_rel {D : Nat} {rr : TypeId → Option EqD}
    (IH : ∀ {t : TypeId} {d : EqD} {f : Nat} {a b : AV} {r : Bool} {a' b' : Value}, rr t = some d → eqv f d a b = some r → VRel μ a a' → VRel μ b b' → (Op.equalIn D t a' b').run P w = .ok r w)
    {xs ys : List AV} {xs' ys' : Array Value} (hx : VRels μ xs xs'.toList) (hy : VRels μ ys ys'.toList) :
    ∀ (fs : List Field) (l : List (Nat × Option Nat × EqD)) (f : Nat) {r : Bool}, eqdFs P rr fs = some l → eqSt f l xs ys = some r → (Op.eqFields D xs' ys' fs).run P w = .ok r w
  | [], l, f, r, hl, h => by
    simp only [eqdFs, Option.some.injEq] at hl
    subst hl
    cases f with
    | zero => simp [eqSt] at h
    | succ f => simp only [eqSt, Option.some.injEq] at h; subst h; simp [Op.eqFields]
  | g :: fs, l, f, r, hl, h => by
    simp only [eqdFs] at hl
    split at hl
    · rename_i hn
      have hn' : ¬ (g.name ≠ "_") := by simpa using hn
      simp only [Op.eqFields]
      rw [if_neg hn']
      exact eqFields_rel IH hx hy fs l f hl h
    · rename_i hn
      have hn' : g.name ≠ "_" := by simpa using hn
      split at hl
      · rename_i a d q h1 h2 h3
        simp only [Option.some.injEq] at hl
        subst hl
        cases f with
        | zero => simp [eqSt] at h
        | succ f =>
          simp only [eqSt] at h
          split at h
          · rename_i u v p1 p2
            obtain ⟨u', g1, k1⟩ := part_rel (P := P) (w := w) h1 hx p1
            obtain ⟨v', g2, k2⟩ := part_rel (P := P) (w := w) h1 hy p2
            simp only [Op.eqFields]
            rw [if_pos hn']
            simp only [Sem.run_bind, g1, Result.andThen_ok, g2]
            split at h
            · rename_i h4
              rw [IH h2 h4 k1 k2]
              have := eqFields_rel IH hx hy fs q f h3 h
              simpa using this
            · rename_i hne
              rw [IH h2 h k1 k2]
              cases r
              · simp
              · exact absurd h hne
          · simp at h
      · simp at hl

theorem eqv_all : ∀ (n : Nat) {D : Nat} {d : EqD} {f : Nat} {t : TypeId}, eqdOf P n t = some d → ∀ {a b : AV} {r : Bool}, eqv f d a b = some r → ∀ {a' b' : Value}, VRel μ a a' → VRel μ b b' → (Op.equalIn (D + n) t a' b').run P w = .ok r w
  | 0, D, d, f, t, ht, a, b, r, hr, a', b', ha, hb => by simp [eqdOf] at ht
  | n + 1, D, d, f, t, ht, a, b, r, hr, a', b', ha, hb => by
    by_cases hd : d.flat = true
    · exact eqv_rel (D := D + n) hd ht hr ha hb
    · have ht0 := ht
      simp only [eqdOf] at ht
      cases f with
      | zero => simp [eqv] at hr
      | succ f =>
        split at ht
        · simp only [Option.some.injEq] at ht; subst ht; exact absurd rfl hd
        · simp only [Option.some.injEq] at ht; subst ht; exact absurd rfl hd
        · simp only [Option.some.injEq] at ht; subst ht; exact absurd rfl hd
        · split at ht
          · simp only [Option.some.injEq] at ht; subst ht; exact absurd rfl hd
          · simp at ht
        · simp only [Option.some.injEq] at ht; subst ht; exact absurd rfl hd
        · simp only [Option.some.injEq] at ht; subst ht; exact absurd rfl hd
        · simp only [Option.some.injEq] at ht; subst ht; exact absurd rfl hd
        · simp only [Option.some.injEq] at ht; subst ht; exact absurd rfl hd
        · rename_i fs hu
          split at ht
          · simp at ht
          · rename_i hst
            obtain ⟨l, hl, rfl⟩ := Option.map_eq_some_iff.1 ht
            cases a <;> cases b <;> simp only [eqv, reduceCtorEq] at hr
            obtain ⟨xs', rfl, hx⟩ := agg_of ha
            obtain ⟨ys', rfl, hy⟩ := agg_of hb
            have hfs : P.fieldsOf t = fs := by simp [Program.fieldsOf, hu]
            rw [← Nat.add_assoc, run_equalIn_struct w (D + n) t xs' ys' (by rw [hfs]; exact hu) (by simpa using hst), hfs]
            exact eqFields_rel (rr := eqdOf P n) (fun h1 h2 h3 h4 => eqv_all n h1 h2 h3 h4) hx hy fs.toList l f hl hr
        · rename_i len e hu
          split at ht
          · rename_i sz ag d' h1 h2 h3
            simp only [Option.some.injEq] at ht
            subst ht
            cases a <;> cases b <;> simp only [eqv, reduceCtorEq] at hr
            obtain ⟨xs', rfl, hx⟩ := agg_of ha
            obtain ⟨ys', rfl, hy⟩ := agg_of hb
            obtain ⟨i, hi, _⟩ : ∃ i, P.info? e = some i ∧ i.size = sz := by
              unfold sizeT at h1
              obtain ⟨i, q1, q2⟩ := Option.map_eq_some_iff.1 h1
              exact ⟨i, q1, q2⟩
            rw [← Nat.add_assoc, run_equalIn_array w (D + n) xs' ys' hu hi, List.range_eq_range']
            exact eqItems_rel h1 h2 (fun h4 h5 h6 => eqv_all n h3 h4 h5 h6) hx hy len 0 f hr
          · simp at ht
        · simp at ht

/-! ### Bounds -/

def OptRel (μ : Mu) : Option AV → Option Value → Prop
  | none, none => True
  | some a, some v => VRel μ a v
  | _, _ => False

theorem sliceBound_rel {a : AV} {i : Int} (h : asI a = some i) {v : Value} (hv : VRel μ a v) {y : Nat} (h0 : 0 ≤ i) (hy : i ≤ y) (code : BoundsCode) :
    (Instr.sliceBound v y code).run P w = .ok i.toNat w := by
  obtain ⟨k, rfl⟩ := asI_rel h hv
  simp [Instr.sliceBound, asIntOf, h0, hy]

def BOk (P : Program) (w : World) : Option Value → Nat → Nat → Nat → Prop
  | some v, y, r, _ => ∀ code, (Instr.sliceBound v y code).run P w = .ok r w
  | none, _, r, d => r = d

theorem bounds_rel {len : Nat} {cap : Option Nat} {lo hi mx : Option AV} {l h : Nat} {m : Option Nat} (hb : bounds len cap lo hi mx = some (l, h, m)) {cap' : Nat} (hc : len ≤ cap') (hcap : ∀ c, cap = some c → c = cap')
    {lo' hi' mx' : Option Value} (hlo : OptRel μ lo lo') (hhi : OptRel μ hi hi') (hmx : OptRel μ mx mx') (isS : Bool) :
    (Instr.sliceBounds isS len cap' lo' hi' mx').run P w = .ok (l, h, m.getD cap') w ∧ l ≤ h ∧ h ≤ m.getD cap' ∧ (m = none → h ≤ len ∧ cap = none) := by
  unfold bounds at hb
  simp only [] at hb
  split at hb
  · simp at hb
  · rename_i m0 hm
    have hM : BOk P w mx' cap' (m0.getD cap') cap' ∧ (m0 = none → cap = none ∧ mx = none) ∧ (∀ k, m0 = some k → k ≤ cap') ∧ (mx = none → m0 = cap) := by
      cases mx with
      | none =>
        cases mx' with
        | some v => exact hmx.elim
        | none =>
          simp only [Option.some.injEq] at hm
          subst hm
          refine ⟨?_, fun h => ⟨h, rfl⟩, fun k hk => by rw [hcap k hk]; exact Nat.le_refl _, fun _ => rfl⟩
          cases cap with
          | none => rfl
          | some c => exact hcap c rfl
      | some v =>
        cases mx' with
        | none => exact hmx.elim
        | some v' =>
          simp only [] at hm
          split at hm
          · rename_i i hi
            split at hm
            · rename_i h0
              have h0 : 0 ≤ i := by simpa using h0
              split at hm
              · rename_i c
                split at hm
                · rename_i hle
                  simp only [Option.some.injEq] at hm
                  subst hm
                  have := hcap c rfl
                  subst this
                  have hle : i ≤ c := by simpa using hle
                  exact ⟨fun code => sliceBound_rel hi hmx h0 hle code, by simp, fun k hk => by simp at hk; omega, by simp⟩
                · simp at hm
              · split at hm
                · rename_i hle
                  simp only [Option.some.injEq] at hm
                  subst hm
                  have hle : i ≤ len := by simpa using hle
                  exact ⟨fun code => sliceBound_rel hi hmx h0 (show i ≤ cap' by omega) code, by simp, fun k hk => by simp at hk; omega, by simp⟩
                · simp at hm
            · simp at hm
          · simp at hm
    obtain ⟨hM1, hM2, hM3, hM4⟩ := hM
    split at hb
    · simp at hb
    · rename_i h0 hh
      have hH : (BOk P w hi' (m0.getD cap') h0 len ∧ (hi' = none → mx' = none)) ∧ h0 ≤ m0.getD cap' ∧ (m0 = none → h0 ≤ len) := by
        cases hi with
        | none =>
          cases hi' with
          | some v => exact hhi.elim
          | none =>
            cases mx with
            | some v => simp at hh
            | none =>
              cases mx' with
              | some v => exact hmx.elim
              | none =>
                simp only [Option.isSome_none, Bool.false_eq_true, if_false, Option.some.injEq] at hh
                subst hh
                refine ⟨⟨rfl, fun _ => rfl⟩, ?_, fun _ => Nat.le_refl _⟩
                rw [hM4 rfl]
                cases cap with
                | none => exact hc
                | some c => simpa [hcap c rfl] using hc
        | some v =>
          cases hi' with
          | none => exact hhi.elim
          | some v' =>
            simp only [] at hh
            split at hh
            · rename_i i hi
              split at hh
              · rename_i hle
                simp only [Bool.and_eq_true, decide_eq_true_eq] at hle
                simp only [Option.some.injEq] at hh
                subst hh
                have hle2 : i ≤ (m0.getD cap' : Nat) := by
                  cases m0 with
                  | none => have := hle.2; simp at this ⊢; omega
                  | some k => simpa using hle.2
                exact ⟨⟨fun code => sliceBound_rel hi hhi hle.1 hle2 code, by simp⟩, by omega, fun e => by subst e; have := hle.2; simp at this; omega⟩
              · simp at hh
            · simp at hh
      obtain ⟨hH1, hH2, hH3⟩ := hH
      have hL : BOk P w lo' h0 l 0 ∧ l ≤ h0 ∧ h0 = h ∧ m0 = m := by
        cases lo with
        | none =>
          cases lo' with
          | some v => exact hlo.elim
          | none =>
            simp only [Option.some.injEq, Prod.mk.injEq] at hb
            obtain ⟨rfl, rfl, rfl⟩ := hb
            exact ⟨rfl, Nat.zero_le _, rfl, rfl⟩
        | some v =>
          cases lo' with
          | none => exact hlo.elim
          | some v' =>
            simp only [] at hb
            split at hb
            · rename_i i hi
              split at hb
              · rename_i hle
                simp only [Bool.and_eq_true, decide_eq_true_eq] at hle
                simp only [Option.some.injEq, Prod.mk.injEq] at hb
                obtain ⟨rfl, rfl, rfl⟩ := hb
                exact ⟨fun code => sliceBound_rel hi hlo hle.1 hle.2 code, by omega, rfl, rfl⟩
              · simp at hb
            · simp at hb
      obtain ⟨hL1, hL2, rfl, rfl⟩ := hL
      refine ⟨?_, hL2, hH2, fun e => ⟨hH3 e, (hM2 e).1⟩⟩
      clear hM2 hM3 hM4 hH2 hH3 hm hh hb hcap hlo hhi hmx
      unfold Instr.sliceBounds
      cases mx' <;> cases hi' <;> cases lo' <;> simp_all [BOk]
end
end Go.Det
