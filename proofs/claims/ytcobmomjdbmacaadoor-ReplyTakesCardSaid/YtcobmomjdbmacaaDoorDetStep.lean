/- A step of the deterministic machine is a step of the real one. -/
import Derived.Test.YtcobmomjdbmacaaDoorDetOps
import Derived.Lib.Bytealg
import Derived.Laws.Externs
set_option linter.unusedVariables false
set_option linter.unusedSimpArgs false
set_option linter.unusedSectionVars false
namespace Go.Det
open Go.RowKit

section
variable {P : Program} {μ : Mu} {w0 : World} {ng : Nat} {h : H} {w : World} {ρA : IX → AV} {ρ : Operand → Value}

theorem sl_slice {t e : TypeId} (ht : P.underlying t = some (.slice e)) {s : Nat} (hs : sizeT P e = some s) {x : Operand} {lo hi mx : Option Operand} {X : IX} {Lo Hi Mx : Option IX}
    (hρ : ∀ y ∈ (x :: (lo.toList ++ hi.toList ++ mx.toList)), ∀ X, ofOpd P y = some X → VRel μ (ρA X) (ρ y))
    (hx : ofOpd P x = some X) (hlo : ofOpt P lo = some Lo) (hhi : ofOpt P hi = some Hi) (hmx : ofOpt P mx = some Mx) {v : AV} {h' : H} (hi' : iop (.slL s X Lo Hi Mx) ρA h = some (.val v h')) :
    h' = h ∧ Pl P μ w (Instr.sliceAt t (ρ x) (lo.map ρ) (hi.map ρ) (mx.map ρ)) v := by
  have hX := hρ _ (by simp) _ hx
  have hL := ofOpt_rel (fun y hy => hρ y (by simp [List.mem_cons, List.mem_append, hy])) hlo
  have hH := ofOpt_rel (fun y hy => hρ y (by simp [List.mem_cons, List.mem_append, hy])) hhi
  have hM := ofOpt_rel (fun y hy => hρ y (by simp [List.mem_cons, List.mem_append, hy])) hmx
  simp only [iop] at hi'
  split at hi'
  · rename_i he
    rw [he] at hX
    split at hi'
    · rename_i r hb
      simp only [Option.some.injEq, Ans.val.injEq] at hi'
      obtain ⟨rfl, rfl⟩ := hi'
      exact ⟨rfl, slN_rs ht hs hb hL hH hM hX⟩
    · simp at hi'
  · rename_i a n c he
    rw [he] at hX
    split at hi'
    · rename_i l hh m hb
      cases c with
      | ex k =>
        simp only [if_true, Option.some.injEq, Ans.val.injEq] at hi'
        obtain ⟨rfl, rfl⟩ := hi'
        exact ⟨rfl, slX_rs ht hs hb hL hH hM hX⟩
      | op e' =>
        simp only [] at hi'
        split at hi'
        · rename_i hcond
          simp only [Option.some.injEq, Ans.val.injEq] at hi'
          obtain ⟨rfl, rfl⟩ := hi'
          simp only [Bool.and_eq_true, Bool.or_eq_true, decide_eq_true_eq, beq_iff_eq] at hcond
          obtain ⟨rfl, hcond⟩ := hcond
          exact ⟨rfl, (slO_rs ht hs hb hL hH hM hX).2 m rfl hcond⟩
        · simp at hi'
    · rename_i l hh hb
      split at hi'
      · rename_i e'
        split at hi'
        · rename_i hee
          have hee : e' = s := by simpa using hee
          subst hee
          simp only [Option.some.injEq, Ans.val.injEq] at hi'
          obtain ⟨rfl, rfl⟩ := hi'
          exact ⟨rfl, (slO_rs ht hs hb hL hH hM hX).1 rfl⟩
        · simp at hi'
      · simp at hi'
    · simp at hi'
  · simp at hi'

theorem sl_array {t arr e : TypeId} {n : Nat} (ht : P.underlying t = some (.array n e) ∨ (P.underlying t = some (.pointer arr) ∧ P.underlying arr = some (.array n e))) {s : Nat} (hs : sizeT P e = some s)
    {x : Operand} {lo hi mx : Option Operand} {X : IX} {Lo Hi Mx : Option IX} (hρ : ∀ y ∈ (x :: (lo.toList ++ hi.toList ++ mx.toList)), ∀ X, ofOpd P y = some X → VRel μ (ρA X) (ρ y))
    (hx : ofOpd P x = some X) (hlo : ofOpt P lo = some Lo) (hhi : ofOpt P hi = some Hi) (hmx : ofOpt P mx = some Mx) {v : AV} {h' : H} (hi' : iop (.slA n s X Lo Hi Mx) ρA h = some (.val v h')) :
    h' = h ∧ Pl P μ w (Instr.sliceAt t (ρ x) (lo.map ρ) (hi.map ρ) (mx.map ρ)) v := by
  have hX := hρ _ (by simp) _ hx
  have hL := ofOpt_rel (fun y hy => hρ y (by simp [List.mem_cons, List.mem_append, hy])) hlo
  have hH := ofOpt_rel (fun y hy => hρ y (by simp [List.mem_cons, List.mem_append, hy])) hhi
  have hM := ofOpt_rel (fun y hy => hρ y (by simp [List.mem_cons, List.mem_append, hy])) hmx
  simp only [iop] at hi'
  split at hi'
  · rename_i a he
    rw [he] at hX
    split at hi'
    · rename_i l hh m hb
      simp only [Option.some.injEq, Ans.val.injEq] at hi'
      obtain ⟨rfl, rfl⟩ := hi'
      exact ⟨rfl, slA_rs ht hs hb hL hH hM hX⟩
    · simp at hi'
  · simp at hi'

theorem eqGuard_flat {op : BinOp} {t : TypeId} {X Y : Operand} {a b : Value} (h1 : ¬ (a = .nilIface ∧ b = .nilIface) ∨ isLit X = true ∨ isLit Y = true) (h2 : ∀ xs, a ≠ .agg xs) : (eqGuard op t X Y a b).run P w = .ok () w := by
  unfold eqGuard
  by_cases hop : (op matches .eql | .neq) = true
  · cases op <;> simp only [Bool.false_eq_true] at hop <;> (cases a <;> cases b <;> first
      | rfl
      | (exact absurd rfl (h2 _))
      | (rcases h1 with h1 | h1 | h1
         · exact absurd ⟨rfl, rfl⟩ h1
         · cases X <;> simp [isLit] at h1; simp
         · cases Y <;> simp [isLit] at h1; simp))
  · cases op <;> first | rfl | (simp at hop)

theorem binOp_eq {t : TypeId} {a b : AV} {d : EqD} (hd : d.flat = true) {n f : Nat} (ht : eqdOf P n t = some d) {r : Bool} (hr : eqv f d a b = some r) {a' b' : Value} (ha : VRel μ a a') (hb : VRel μ b b') (hni : ∀ k x, a' ≠ .int k x) (hns : ∀ s, a' ≠ .string s) :
    (binOp .eql t a' b').run P w = .ok (.bool r) w ∧ (binOp .neq t a' b').run P w = .ok (.bool (!r)) w := by
  have key := eqv_rel (P := P) (w := w) (D := 9999) hd ht hr ha hb
  have hnf : ∀ k x, a' ≠ .float k x := by
    intro k x e; subst e
    cases a <;> first | (cases ha; done) | (obtain ⟨_, _, h⟩ := ha; cases h; done) | (obtain ⟨_, _, h, _⟩ := ha; cases h; done) | (obtain ⟨_, h, _⟩ := ha; cases h; done) | (obtain ⟨_, _, h⟩ := sl_of ha; cases h; done)
  have hnc : ∀ k x y, a' ≠ .complex k x y := by
    intro k x y e; subst e
    cases a <;> first | (cases ha; done) | (obtain ⟨_, _, h⟩ := ha; cases h; done) | (obtain ⟨_, _, h, _⟩ := ha; cases h; done) | (obtain ⟨_, h, _⟩ := ha; cases h; done) | (obtain ⟨_, _, h⟩ := sl_of ha; cases h; done)
  constructor
  · cases a' <;> first
      | (exact absurd rfl (hni _ _)) | (exact absurd rfl (hns _)) | (exact absurd rfl (hnf _ _)) | (exact absurd rfl (hnc _ _ _))
      | (simp only [binOp, Sem.run_bind, Op.equal, Op.maxDepth, key, Result.andThen_ok, Sem.run_pure])
  · cases a' <;> first
      | (exact absurd rfl (hni _ _)) | (exact absurd rfl (hns _)) | (exact absurd rfl (hnf _ _)) | (exact absurd rfl (hnc _ _ _))
      | (simp only [binOp, Sem.run_bind, Op.equal, Op.maxDepth, key, Result.andThen_ok, Sem.run_pure])

theorem flat_of {n : Nat} {t : TypeId} {d : EqD} (h : eqdOf P n t = some d) (h1 : ∀ fs, P.underlying t ≠ some (.struct fs)) (h2 : ∀ k e, P.underlying t ≠ some (.array k e)) : d.flat = true := by
  cases n with
  | zero => simp [eqdOf] at h
  | succ n =>
    simp only [eqdOf] at h
    split at h
    · simp only [Option.some.injEq] at h; subst h; rfl
    · simp only [Option.some.injEq] at h; subst h; rfl
    · simp only [Option.some.injEq] at h; subst h; rfl
    · split at h
      · simp only [Option.some.injEq] at h; subst h; rfl
      · simp at h
    · simp only [Option.some.injEq] at h; subst h; rfl
    · simp only [Option.some.injEq] at h; subst h; rfl
    · simp only [Option.some.injEq] at h; subst h; rfl
    · simp only [Option.some.injEq] at h; subst h; rfl
    · rename_i fs hu; exact absurd hu (h1 _)
    · rename_i k e hu; exact absurd hu (h2 _ _)
    · simp at h

/-- Arrays and structs held against each other. -/
theorem eq_agg_step {t : TypeId} {op : BinOp} {neg lit : Bool} (hop : op = if neg then .neq else .eql) {x y : Operand} {X Y : IX} (hρ : ∀ z ∈ [x, y], ∀ X, ofOpd P z = some X → VRel μ (ρA X) (ρ z)) (hx : ofOpd P x = some X) (hy : ofOpd P y = some Y) {d : EqD} (hd : eqdOf P 20 t = some d) (hf : ¬ d.flat = true)
    (hg : P.eqGuardType P.depth t = false) {v : AV} {h' : H} (hi : iop (.eq d neg lit X Y) ρA h = some (.val v h')) :
    h' = h ∧ Pl P μ w (do eqGuard op t x y (ρ x) (ρ y); binOp op t (ρ x) (ρ y)) v := by
  have hX := hρ x (by simp) _ hx
  have hY := hρ y (by simp) _ hy
  have key : ∀ (a b : AV), ρA X = a → ρA Y = b → (eqv 1000 d a b).map (fun r => Ans.val (.bool (r != neg)) h) = some (.val v h') → h' = h ∧ Pl P μ w (do eqGuard op t x y (ρ x) (ρ y); binOp op t (ρ x) (ρ y)) v := by
    intro a b ea eb hm
    obtain ⟨r, hr, e⟩ := Option.map_eq_some_iff.1 hm
    simp only [Ans.val.injEq] at e
    obtain ⟨rfl, rfl⟩ := e
    rw [ea] at hX
    rw [eb] at hY
    have hq := eqv_all (P := P) (w := w) 20 (D := 9980) hd hr hX hY
    have hagg : ∃ cs ds, a = .agg cs ∧ b = .agg ds := by
      cases d <;> simp only [EqD.flat, not_true_eq_false] at hf <;> (cases a <;> cases b <;> simp only [eqv, reduceCtorEq] at hr) <;> exact ⟨_, _, rfl, rfl⟩
    obtain ⟨cs, ds, rfl, rfl⟩ := hagg
    obtain ⟨xs, e1, _⟩ := agg_of hX
    obtain ⟨ys, e2, _⟩ := agg_of hY
    rw [e1, e2] at hq ⊢
    refine ⟨rfl, .bool (r != neg), ?_, rfl⟩
    rw [Sem.run_bind, run_eqGuard_agg w op t x y xs ys hg]
    simp only [Result.andThen_ok]
    subst hop
    cases neg
    · simp only [Bool.false_eq_true, if_false]
      rw [run_eql_struct, hq]
      simp
    · simp only [if_true]
      rw [run_neq_struct, hq]
      simp
  simp only [iop] at hi
  split at hi
  · rename_i ea eb
    split at hi
    · exact key _ _ ea eb hi
    · simp at hi
  · exact key _ _ rfl rfl hi

theorem eq_step {t : TypeId} {op : BinOp} {neg : Bool} (hop : op = if neg then .neq else .eql) {x y : Operand} {X Y : IX} (hρ : ∀ z ∈ [x, y], ∀ X, ofOpd P z = some X → VRel μ (ρA X) (ρ z)) (hx : ofOpd P x = some X) (hy : ofOpd P y = some Y) {d : EqD} {n : Nat} (hd : eqdOf P n t = some d) (hf : d.flat = true)
    (hni : ∀ k, P.underlying t ≠ some (.int k)) (hns : P.underlying t ≠ some .string) {v : AV} {h' : H} (hi : iop (.eq d neg (isLit x || isLit y) X Y) ρA h = some (.val v h')) :
    h' = h ∧ Pl P μ w (do eqGuard op t x y (ρ x) (ρ y); binOp op t (ρ x) (ρ y)) v := by
  have hX := hρ x (by simp) _ hx
  have hY := hρ y (by simp) _ hy
  have hdn : d ≠ .num := by
    intro e; subst e
    cases n with
    | zero => simp [eqdOf] at hd
    | succ n =>
      simp only [eqdOf] at hd
      split at hd <;> first | (rename_i hu; exact absurd hu (hni _)) | (simp at hd; done) | (split at hd <;> simp at hd; done) | skip
      all_goals first | (split at hd <;> simp at hd) | skip
  have hds : d ≠ .str := by
    intro e; subst e
    cases n with
    | zero => simp [eqdOf] at hd
    | succ n =>
      simp only [eqdOf] at hd
      split at hd <;> first | (rename_i hu; exact absurd hu hns) | (simp at hd; done) | (split at hd <;> simp at hd; done) | skip
      all_goals first | (split at hd <;> simp at hd) | skip
  have fin : ∀ (a b : AV) (r : Bool), VRel μ a (ρ x) → VRel μ b (ρ y) → (¬ (a = .nili ∧ b = .nili) ∨ isLit x = true ∨ isLit y = true) → eqv 1000 d a b = some r → Pl P μ w (do eqGuard op t x y (ρ x) (ρ y); binOp op t (ρ x) (ρ y)) (.bool (r != neg)) := by
    intro a b r ha hb hlit hr
    have hagg : ∀ xs, ρ x ≠ .agg xs := by
      intro xs e
      rw [e] at ha
      cases a <;> first
        | (cases ha; done) | (obtain ⟨_, _, h⟩ := ha; cases h; done) | (obtain ⟨_, _, h, _⟩ := ha; cases h; done) | (obtain ⟨_, h, _⟩ := ha; cases h; done) | (obtain ⟨_, _, h⟩ := sl_of ha; cases h; done)
        | (cases d <;> cases b <;> simp [eqv, EqD.flat] at hr hf)
    have hint : ∀ k q, ρ x ≠ .int k q := by
      intro k q e
      rw [e] at ha
      cases a <;> first
        | (obtain ⟨_, _, h⟩ := ha; cases h; done) | (obtain ⟨_, _, h, _⟩ := ha; cases h; done) | (obtain ⟨_, h, _⟩ := ha; cases h; done) | (obtain ⟨_, _, h⟩ := sl_of ha; cases h; done)
        | (cases d <;> cases b <;> simp [eqv, EqD.flat] at hr hf hdn; done)
        | (cases ha; done)
    have hstr : ∀ s, ρ x ≠ .string s := by
      intro s e
      rw [e] at ha
      cases a <;> first
        | (obtain ⟨_, _, h⟩ := ha; cases h; done) | (obtain ⟨_, _, h, _⟩ := ha; cases h; done) | (obtain ⟨_, h, _⟩ := ha; cases h; done) | (obtain ⟨_, _, h⟩ := sl_of ha; cases h; done)
        | (cases d <;> cases b <;> simp [eqv, EqD.flat] at hr hf hds; done)
        | (cases ha; done)
    have hnil : ¬ (ρ x = .nilIface ∧ ρ y = .nilIface) ∨ isLit x = true ∨ isLit y = true := by
      rcases hlit with h1 | h1
      · refine .inl fun ⟨e1, e2⟩ => h1 ⟨?_, ?_⟩
        · rw [e1] at ha
          cases a <;> first | rfl | (cases ha; done) | (obtain ⟨_, _, h⟩ := ha; cases h; done) | (obtain ⟨_, _, h, _⟩ := ha; cases h; done) | (obtain ⟨_, h, _⟩ := ha; cases h; done) | (obtain ⟨_, _, h⟩ := sl_of ha; cases h; done)
        · rw [e2] at hb
          cases b <;> first | rfl | (cases hb; done) | (obtain ⟨_, _, h⟩ := hb; cases h; done) | (obtain ⟨_, _, h, _⟩ := hb; cases h; done) | (obtain ⟨_, h, _⟩ := hb; cases h; done) | (obtain ⟨_, _, h⟩ := sl_of hb; cases h; done)
      · exact .inr h1
    have hg := eqGuard_flat (P := P) (w := w) (op := op) (t := t) hnil hagg
    have hb2 := binOp_eq (P := P) (w := w) hf hd hr ha hb hint hstr
    refine ⟨.bool (r != neg), ?_, rfl⟩
    simp only [Sem.run_bind, hg, Result.andThen_ok]
    subst hop
    cases neg
    · simpa using hb2.1
    · simpa using hb2.2
  simp only [iop] at hi
  split at hi
  · rename_i e1 e2
    split at hi
    · rename_i hlit
      obtain ⟨r, h1, h2⟩ := Option.map_eq_some_iff.1 hi
      simp only [Ans.val.injEq] at h2
      obtain ⟨rfl, rfl⟩ := h2
      rw [e1] at hX
      rw [e2] at hY
      exact ⟨rfl, fin .nili .nili r hX hY (.inr (by simpa using hlit)) h1⟩
    · simp at hi
  · obtain ⟨r, h1, h2⟩ := Option.map_eq_some_iff.1 hi
    simp only [Ans.val.injEq] at h2
    obtain ⟨rfl, rfl⟩ := h2
    rename_i hnn
    exact ⟨rfl, fin _ _ r hX hY (.inl fun ⟨e1, e2⟩ => hnn e1 e2) h1⟩

theorem builtin_run {b : Builtin} {args : Array Operand} {ats : Array TypeId} {ty : TypeId} (dst : Option Tmp) (pos : String) (after : Array Edge) (guard : Option (Nat × Bool)) :
    ∃ cs, (execOp ρ ⟨dst, .call ⟨.builtin b, args, ats⟩, ty, pos, after, guard⟩).run P w = (builtin b ats ty cs (args.map ρ)).run P w :=
  ⟨_, by simp only [execOp, resolve, invoke, Sem.run_bind, Sem.run_pure, Result.andThen_ok]; rfl⟩

theorem ofOpds_one {l : List Operand} {x : IX} (h : ofOpds P l = some [x]) : ∃ p, l = [p] ∧ ofOpd P p = some x := by
  cases l with
  | nil => simp [ofOpds] at h
  | cons p l =>
    simp only [ofOpds] at h
    split at h
    · rename_i a r h1 h2
      simp only [Option.some.injEq, List.cons.injEq] at h
      obtain ⟨rfl, rfl⟩ := h
      cases l with
      | nil => exact ⟨p, rfl, h1⟩
      | cons q l => simp only [ofOpds] at h2; split at h2 <;> simp at h2
    · simp at h

theorem ofOpds_two {l : List Operand} {x y : IX} (h : ofOpds P l = some [x, y]) : ∃ p q, l = [p, q] ∧ ofOpd P p = some x ∧ ofOpd P q = some y := by
  cases l with
  | nil => simp [ofOpds] at h
  | cons p l =>
    simp only [ofOpds] at h
    split at h
    · rename_i a r h1 h2
      simp only [Option.some.injEq, List.cons.injEq] at h
      obtain ⟨rfl, rfl⟩ := h
      obtain ⟨q, rfl, h3⟩ := ofOpds_one h2
      exact ⟨p, q, rfl, h1, h3⟩
    · simp at h

theorem idxF_eq (c : UInt8) : ∀ (l : List UInt8) (n : Nat), idxF l c n = if Lib.indexByte l c = -1 then -1 else n + Lib.indexByte l c
  | [], n => by simp [idxF, Lib.indexByte]
  | b :: l, n => by
    have ih := idxF_eq c l (n + 1)
    have hg := Lib.indexByte_ge l c
    unfold idxF Lib.indexByte
    by_cases hb : (b == c) = true
    · simp [hb]
    · simp only [hb, Bool.false_eq_true, if_false, ih]
      by_cases hm : Lib.indexByte l c = -1
      · simp [hm]
      · have : (Lib.indexByte l c == -1) = false := by simpa using hm
        rw [this]
        simp only [Bool.false_eq_true, if_false, if_neg hm]
        rw [if_neg (by omega)]
        omega

theorem find_ibs : Extern.allNextRows.lookup "internal/bytealg.IndexByteString" = none := by rfl
theorem find_none : Extern.allNextRows.lookup "" = none := by rfl
theorem find_ibs' {fn : Func} (hn : fn.name = "internal/bytealg.IndexByteString") : Extern.find fn = some Extern.BytealgIndexByte.indexByte := by
  unfold Extern.find
  rw [hn]
  rfl

/-- A function without a body. -/
theorem ext_rel {g : FuncId} {fn : Func} (hf : P.funcs[g]? = some fn) {args : List IX} {X : IOp} (hc : extOf fn args = some X) {ts : List AV} {vs : Array Value} (hr : VRels μ (args.map (ev ts)) vs.toList) {v : AV} {h' : H} (hi : iop X (ev ts) h = some (.val v h')) :
    ∃ v', (callFunc g vs).run P w = .ok (.value v') w ∧ VRel μ v v' ∧ h' = h := by
  unfold extOf at hc
  split at hc
  · rename_i hcond
    simp only [Bool.and_eq_true, beq_iff_eq] at hcond
    obtain ⟨⟨hb, hn⟩, ho⟩ := hcond
    simp only [Option.some.injEq] at hc
    subst hc
    simp only [iop] at hi
    obtain ⟨u, h1, h2⟩ := Option.map_eq_some_iff.1 hi
    simp only [Ans.val.injEq] at h2
    obtain ⟨rfl, rfl⟩ := h2
    unfold xtRun at h1
    split at h1
    · rename_i s c _ hx
      simp only [Option.some.injEq] at h1
      subst h1
      rw [hx] at hr
      obtain ⟨a', r', e1, e2, b', r2, e3, e4, e5⟩ := hr
      cases e2; cases e4; cases e5
      have hvs : vs = #[.string ⟨s.toArray⟩, .int .u8 c] := by
        apply Array.ext'
        rw [e1, e3]
      subst hvs
      refine ⟨.int .i64 (Lib.indexByte s (UInt8.ofNat c.toNat)), ?_, ?_, rfl⟩
      · rw [run_callFunc_extern hf (by rw [hn]; decide) hb (by unfold Extern.findNext; rw [hn, ho]; simp only [find_ibs, find_none]; rfl) (find_ibs' hn), Lib.run_indexByteString]
        simp
      · show Value.int .i64 _ = .int .i64 _
        rw [idxF_eq]
        congr 1
        have hg := Lib.indexByte_ge s (UInt8.ofNat c.toNat)
        split <;> omega
    · simp at h1
  · simp at hc

theorem call_step {c : Call} {ty : TypeId} {X : IOp} (hc : compOp P (.call c) ty = some X) {ts : List AV} (hρ0 : ∀ x ∈ (Op.call c).operands, ∀ X, ofOpd P x = some X → VRel μ (ev ts X) (ρ x)) (W : WRel μ w0 ng h w) {v : AV} {h' : H} (hi : iop X (ev ts) h = some (.val v h')) (dst : Option Tmp) (pos : String) (after : Array Edge)
    (guard : Option (Nat × Bool)) : Stp P μ w0 ng h w (execOp ρ ⟨dst, .call c, ty, pos, after, guard⟩) v h' := by
  obtain ⟨callee, args, ats⟩ := c
  have hρ : ∀ x ∈ args.toList, ∀ X, ofOpd P x = some X → VRel μ (ev ts X) (ρ x) := fun x hx => hρ0 x (by simp [Op.operands, Call.operands]; simp at hx; exact .inr hx)
  simp only [compOp, compCall] at hc
  split at hc
  · simp at hc
  · rename_i iargs hargs
    split at hc
    · rename_i g
      split at hc
      · rename_i fn hfn
        split at hc
        · simp only [Option.some.injEq] at hc; subst hc; simp [iop] at hi
        · obtain ⟨p, q, h1, h2, h3⟩ : VRel μ (.fn (.func g) [] []) (ρ (.func g)) := hρ0 (.func g) (by simp [Op.operands, Call.operands]) _ rfl
          have hp : p = #[] := by cases p; cases h2; rfl
          have hq : q = #[] := by cases q; cases h3; rfl
          subst hp; subst hq
          have hrel : VRels μ (iargs.map (ev ts)) (args.map ρ).toList := by
            have := ofOpds_rel (μ := μ) (ρA := ev ts) (ρ := ρ) args.toList iargs hρ hargs
            simpa using this
          obtain ⟨v', k1, k2, rfl⟩ := ext_rel hfn hc hrel (w := w) (by simpa using hi)
          refine ⟨.value v', v', w, μ, ?_, .inl rfl, k2, W, Adv.refl _ _ _⟩
          simp only [execOp, resolve, h1, Deferred.ofValue, invoke, Sem.run_bind, Sem.run_pure, Result.andThen_ok]
          simpa using k1
      · simp at hc
    · rename_i f _
      obtain ⟨g, _, rfl⟩ := Option.map_eq_some_iff.1 hc
      simp only [iop] at hi
      split at hi <;> simp at hi
    · simp at hc
    · rename_i b
      have fin : ∀ {s : Sem Value}, (∀ cs, builtin b ats ty cs (args.map ρ) = (do pure (Next.value (← s)) : Sem Next)) → Rs P μ w0 ng h w s v h' → Stp P μ w0 ng h w (execOp ρ ⟨dst, .call ⟨.builtin b, args, ats⟩, ty, pos, after, guard⟩) v h' := by
        intro s hs hr
        obtain ⟨nx, v', w', μ', h1, h2⟩ := hr.stp
        obtain ⟨cs, hcs⟩ := builtin_run (P := P) (w := w) (ρ := ρ) (b := b) (args := args) (ats := ats) (ty := ty) dst pos after guard
        exact ⟨nx, v', w', μ', by rw [hcs, hs]; exact h1, h2⟩
      have arr : ∀ {l : List Operand}, args.toList = l → args.map ρ = (l.map ρ).toArray := by intro l e; subst e; apply Array.ext'; simp
      have tarr : ∀ {l : List TypeId}, ats.toList = l → ats = l.toArray := by intro l e; subst e; rfl
      split at hc
      · -- append
        rename_i x y t u hats
        obtain ⟨p, q, hpq, hp, hq⟩ := ofOpds_two hargs
        obtain rfl := tarr hats
        rw [arr hpq] at fin
        split at hc
        · rename_i e d ht hu
          split at hc
          · rename_i i hinfo
            split at hc
            · rename_i z hz
              split at hc
              · rename_i hcond
                simp only [Bool.and_eq_true, beq_iff_eq, decide_eq_true_eq] at hcond
                obtain ⟨⟨hc1, hc2⟩, hc3⟩ := hcond
                simp only [Option.some.injEq] at hc
                subst hc
                simp only [iop] at hi
                split at hi
                · rename_i hst
                  have hst : isStrV (ev ts y) = isStrD d := by simpa using hst
                  refine fin (s := Builtin.append_ #[t, u] ty #[ρ p, ρ q]) (fun cs => rfl) ?_
                  refine append_rs W ht hu hinfo hz hc1 hc2 hc3 hi (hρ _ (by simp [hpq]) _ hp) (hρ _ (by simp [hpq]) _ hq) ?_ ?_
                  · intro s e
                    rw [e] at hst
                    cases d <;> first | rfl | (simp [isStrV, isStrD] at hst)
                  · intro hn e
                    subst e
                    cases hy : ev ts y <;> first | (exact absurd hy (hn _)) | (rw [hy] at hst; simp [isStrV, isStrD] at hst)
                · simp at hi
              · simp at hc
            · simp at hc
          · simp at hc
        · simp at hc
      · -- len
        rename_i x t hats
        obtain ⟨p, hpq, hp⟩ := ofOpds_one hargs
        obtain rfl := tarr hats
        rw [arr hpq] at fin
        have hP := hρ _ (by simp [hpq]) _ hp
        split at hc
        · rename_i ht
          simp only [Option.some.injEq] at hc
          subst hc
          refine fin (s := Builtin.len_ #[t] ty #[ρ p]) (fun cs => rfl) ?_
          simp only [iop, if_true] at hi
          split at hi <;> simp only [Option.some.injEq, Ans.val.injEq, reduceCtorEq] at hi
          rename_i s he
          rw [he] at hP
          obtain ⟨rfl, rfl⟩ := hi
          exact Pl.rs W ⟨.int .i64 s.length, by rw [show ρ p = _ from hP]; simp [Builtin.len_, run_underlying ht, ba_size, goInt], rfl⟩
        · rename_i e ht
          simp only [Option.some.injEq] at hc
          subst hc
          refine fin (s := Builtin.len_ #[t] ty #[ρ p]) (fun cs => rfl) ?_
          simp only [iop, Bool.false_eq_true, if_false] at hi
          split at hi <;> simp only [Option.some.injEq, Ans.val.injEq, reduceCtorEq] at hi
          · rename_i he
            rw [he] at hP
            obtain ⟨rfl, rfl⟩ := hi
            exact Pl.rs W ⟨.int .i64 0, by rw [show ρ p = _ from hP]; simp [Builtin.len_, run_underlying ht, goInt], rfl⟩
          · rename_i a n c he
            rw [he] at hP
            obtain ⟨rfl, rfl⟩ := hi
            obtain ⟨_, _, hs⟩ := sl_of hP
            exact Pl.rs W ⟨.int .i64 n, by rw [hs]; simp [Builtin.len_, run_underlying ht, goInt], rfl⟩
        · rename_i n e ht
          simp only [Option.some.injEq] at hc
          subst hc
          simp only [iop, ev, Option.some.injEq, Ans.val.injEq] at hi
          obtain ⟨rfl, rfl⟩ := hi
          exact fin (s := Builtin.len_ #[t] ty #[ρ p]) (fun cs => rfl) (Pl.rs W ⟨.int .i64 n, by simp [Builtin.len_, run_underlying ht, goInt], rfl⟩)
        · simp at hc
      · -- copy
        rename_i x y t u hats
        obtain ⟨p, q, hpq, hp, hq⟩ := ofOpds_two hargs
        obtain rfl := tarr hats
        rw [arr hpq] at fin
        split at hc
        · rename_i e ht
          obtain ⟨sz, hs, rfl⟩ := Option.map_eq_some_iff.1 hc
          exact fin (s := Builtin.copy_ #[t, u] ty #[ρ p, ρ q]) (fun cs => rfl) (copy_rs W ht hs hi (hρ _ (by simp [hpq]) _ hp) (hρ _ (by simp [hpq]) _ hq))
        · simp at hc
      · -- min
        rename_i x y
        obtain ⟨p, q, hpq, hp, hq⟩ := ofOpds_two hargs
        rw [arr hpq] at fin
        have hP := hρ _ (by simp [hpq]) _ hp
        have hQ := hρ _ (by simp [hpq]) _ hq
        simp only [Option.some.injEq] at hc
        subst hc
        simp only [iop] at hi
        split at hi <;> simp only [Option.some.injEq, Ans.val.injEq, reduceCtorEq] at hi
        rename_i k a k' b h1 h2
        rw [h1] at hP
        rw [h2] at hQ
        obtain ⟨rfl, rfl⟩ := hi
        exact fin (s := Builtin.min_ ats ty #[ρ p, ρ q]) (fun cs => rfl) (Pl.rs W ⟨_, by rw [show ρ p = _ from hP, show ρ q = _ from hQ]; simp [Builtin.min_, Builtin.min2], rfl⟩)
      · -- max
        rename_i x y
        obtain ⟨p, q, hpq, hp, hq⟩ := ofOpds_two hargs
        rw [arr hpq] at fin
        have hP := hρ _ (by simp [hpq]) _ hp
        have hQ := hρ _ (by simp [hpq]) _ hq
        simp only [Option.some.injEq] at hc
        subst hc
        simp only [iop] at hi
        split at hi <;> simp only [Option.some.injEq, Ans.val.injEq, reduceCtorEq] at hi
        rename_i k a k' b h1 h2
        rw [h1] at hP
        rw [h2] at hQ
        obtain ⟨rfl, rfl⟩ := hi
        exact fin (s := Builtin.max_ ats ty #[ρ p, ρ q]) (fun cs => rfl) (Pl.rs W ⟨_, by rw [show ρ p = _ from hP, show ρ q = _ from hQ]; simp [Builtin.max_, Builtin.max2], rfl⟩)
      · simp at hc

theorem mem_parts {t : TypeId} {ps : Array (Nat × Operand)} {p : Nat × Operand} (h : p ∈ ps.toList) : p.2 ∈ (Op.build t ps).operands := by
  simp only [Op.operands]
  exact List.mem_toArray.2 (List.mem_map.2 ⟨p, h, rfl⟩)

theorem mem_slice {t : TypeId} {x : Operand} {lo hi mx : Option Operand} {y : Operand} (h : y ∈ (x :: (lo.toList ++ hi.toList ++ mx.toList))) : y ∈ (Op.slice t x lo hi mx).operands := by
  simp only [Op.operands]
  cases lo <;> cases hi <;> cases mx <;> simpa using h

theorem iop_sound {op : Op} {ty : TypeId} {X : IOp} (hc : compOp P op ty = some X) {ts : List AV} (hρ : ∀ x ∈ op.operands, ∀ X, ofOpd P x = some X → VRel μ (ev ts X) (ρ x)) (W : WRel μ w0 ng h w) {v : AV} {h' : H} (hi : iop X (ev ts) h = some (.val v h')) (dst : Option Tmp) (pos : String) (after : Array Edge)
    (guard : Option (Nat × Bool)) : Stp P μ w0 ng h w (execOp ρ ⟨dst, op, ty, pos, after, guard⟩) v h' := by
  cases op with
  | move x =>
    simp only [compOp, Option.bind_eq_some_iff, Option.some.injEq] at hc
    obtain ⟨x', hx, rfl⟩ := hc
    simp only [iop, Option.some.injEq, Ans.val.injEq] at hi
    obtain ⟨rfl, rfl⟩ := hi
    exact Stp.val W (hρ _ (by simp [Op.operands]) _ hx)
  | assign x =>
    simp only [compOp, Option.bind_eq_some_iff, Option.some.injEq] at hc
    obtain ⟨x', hx, rfl⟩ := hc
    simp only [iop, Option.some.injEq, Ans.val.injEq] at hi
    obtain ⟨rfl, rfl⟩ := hi
    exact Stp.val W (hρ _ (by simp [Op.operands]) _ hx)
  | pick c a b =>
    simp only [compOp, Option.bind_eq_some_iff, Option.some.injEq] at hc
    obtain ⟨c', hc', a', ha, b', hb, rfl⟩ := hc
    have hC := hρ _ (by simp [Op.operands]) _ hc'
    simp only [iop] at hi
    split at hi
    · rename_i he
      rw [he] at hC
      simp only [Option.some.injEq, Ans.val.injEq] at hi
      obtain ⟨rfl, rfl⟩ := hi
      exact ⟨_, ρ a, w, μ, by simp [execOp, show ρ c = .bool true from hC, asBool], .inl rfl, hρ _ (by simp [Op.operands]) _ ha, W, Adv.refl _ _ _⟩
    · rename_i he
      rw [he] at hC
      simp only [Option.some.injEq, Ans.val.injEq] at hi
      obtain ⟨rfl, rfl⟩ := hi
      exact ⟨_, ρ b, w, μ, by simp [execOp, show ρ c = .bool false from hC, asBool], .inl rfl, hρ _ (by simp [Op.operands]) _ hb, W, Adv.refl _ _ _⟩
    · simp at hi
  | alloc e =>
    simp only [compOp, Option.map_eq_some_iff] at hc
    obtain ⟨z, hz, rfl⟩ := hc
    simp only [iop] at hi
    split at hi
    · simp only [Option.some.injEq, Ans.val.injEq] at hi
      obtain ⟨rfl, rfl⟩ := hi
      exact (alloc_rs W hz).stp
    · simp at hi
  | box e x =>
    simp only [compOp, Option.bind_eq_some_iff, Option.some.injEq] at hc
    obtain ⟨x', hx, rfl⟩ := hc
    simp only [iop] at hi
    split at hi
    · simp only [Option.some.injEq, Ans.val.injEq] at hi
      obtain ⟨rfl, rfl⟩ := hi
      exact (box_rs W e (hρ _ (by simp [Op.operands]) _ hx)).stp
    · simp at hi
  | build t ps =>
    simp only [compOp] at hc
    split at hc
    · rename_i fs z ht hz
      split at hc
      · rename_i hall
        obtain ⟨aps, hp, rfl⟩ := Option.map_eq_some_iff.1 hc
        obtain ⟨cs, h1, h2⟩ := Option.map_eq_some_iff.1 hi
        simp only [Ans.val.injEq] at h2
        obtain ⟨rfl, rfl⟩ := h2
        exact (build_rs ht hz hall hp (fun p hp => hρ _ (mem_parts hp)) h1).stp W
      · simp at hc
    · rename_i len e z ht hz
      split at hc
      · rename_i s hs
        obtain ⟨aps, hp, rfl⟩ := Option.map_eq_some_iff.1 hc
        obtain ⟨cs, h1, h2⟩ := Option.map_eq_some_iff.1 hi
        simp only [Ans.val.injEq] at h2
        obtain ⟨rfl, rfl⟩ := h2
        exact (buildA_rs ht hz hs hp (fun p hp => hρ _ (mem_parts hp)) h1).stp W
      · simp at hc
    · simp at hc
  | buildSlice t n ps =>
    simp only [compOp] at hc
    split at hc
    · rename_i e ht
      split at hc
      · rename_i s z hs hz
        split at hc
        · rename_i hcond
          simp only [Bool.and_eq_true, decide_eq_true_eq, beq_iff_eq] at hcond
          obtain ⟨aps, hp, rfl⟩ := Option.map_eq_some_iff.1 hc
          simp only [iop] at hi
          split at hi
          · rename_i cs hf
            split at hi
            · simp only [Option.some.injEq, Ans.val.injEq] at hi
              obtain ⟨rfl, rfl⟩ := hi
              exact (bsl_rs W ht hs hz hcond.1 hcond.2 hp (fun p hp => hρ _ (mem_parts (t := 0) hp)) hf).stp
            · simp at hi
          · simp at hi
        · simp at hc
      · simp at hc
    · simp at hc
  | load t a =>
    simp only [compOp, Option.bind_eq_some_iff, Option.map_eq_some_iff] at hc
    obtain ⟨a', ha, g, hg, rfl⟩ := hc
    have hA := hρ _ (by simp [Op.operands]) _ ha
    simp only [iop] at hi
    split at hi
    · rename_i ad he
      rw [he] at hA
      obtain ⟨v', h1, h2⟩ := Option.map_eq_some_iff.1 hi
      simp only [Ans.val.injEq] at h2
      obtain ⟨rfl, rfl⟩ := h2
      exact (load_rs W hg h1 hA).stp W
    · simp at hi
  | store t a x =>
    simp only [compOp, Option.bind_eq_some_iff, Option.map_eq_some_iff] at hc
    obtain ⟨a', ha, x', hx, n, hn, rfl⟩ := hc
    have hA := hρ _ (by simp [Op.operands]) _ ha
    have hX := hρ _ (by simp [Op.operands]) _ hx
    simp only [iop] at hi
    split at hi
    · rename_i ad he
      rw [he] at hA
      split at hi
      · rename_i hl
        obtain ⟨h1, h2, h3⟩ := Option.map_eq_some_iff.1 hi
        simp only [Ans.val.injEq] at h3
        obtain ⟨rfl, rfl⟩ := h3
        obtain ⟨w', r1, r2, r3⟩ := store_rs W hn (by simpa using hl) h2 hA hX
        exact ⟨.skip, undef, w', μ, by simp [execOp, r1], .inr ⟨rfl, rfl⟩, ⟨_, rfl, rfl⟩, r2, r3⟩
      · simp at hi
    · simp at hi
  | nilCheck x =>
    simp only [compOp, Option.bind_eq_some_iff, Option.some.injEq] at hc
    obtain ⟨x', hx, rfl⟩ := hc
    have hX := hρ _ (by simp [Op.operands]) _ hx
    refine ⟨.value (ρ x), ρ x, w, μ, ?_, .inl rfl, ?_⟩
    · simp only [iop] at hi
      cases he : ev ts x' <;> rw [he] at hX hi <;> (try simp only [reduceCtorEq] at hi)
      · simp only [execOp, show ρ x = _ from hX]; rfl
      · simp only [execOp, show ρ x = _ from hX]; rfl
      · simp only [execOp, show ρ x = _ from hX]; rfl
      · obtain ⟨rb, _, h2⟩ := hX; simp only [execOp, h2]; rfl
      · simp only [execOp, show ρ x = _ from hX]; rfl
      · obtain ⟨_, _, h2⟩ := sl_of hX; simp only [execOp, h2]; rfl
      · simp only [execOp, show ρ x = _ from hX]; rfl
      · obtain ⟨rb, _, h2⟩ := hX; simp only [execOp, h2]; rfl
      · rename_i f a b
        obtain ⟨p, q, h2, _⟩ := hX
        cases f <;> first | (simp only [reduceCtorEq] at hi; done) | (simp only [execOp, h2]; rfl)
      · obtain ⟨y, h2, _⟩ := hX; simp only [execOp, h2]; rfl
      · obtain ⟨y, h2, _⟩ := hX; simp only [execOp, h2]; rfl
      · obtain ⟨y, h2, _⟩ := hX; simp only [execOp, h2]; rfl
      · obtain ⟨_, y, h2⟩ := hX; simp only [execOp, h2]; rfl
    · have : v = ev ts x' ∧ h' = h := by
        simp only [iop] at hi
        split at hi <;> simp only [Option.some.injEq, Ans.val.injEq, reduceCtorEq] at hi
        exact ⟨hi.1.symm, hi.2.symm⟩
      obtain ⟨rfl, rfl⟩ := this
      exact ⟨hX, W, Adv.refl _ _ _⟩
  | binOp op t x y yt =>
    simp only [compOp] at hc
    have bin : ∀ {X : IOp}, ((ofOpd P x).bind fun x => (ofOpd P y).bind fun y => some (IOp.bin op x y)) = some X → iop X (ev ts) h = some (.val v h') → Stp P μ w0 ng h w (execOp ρ ⟨dst, .binOp op t x y yt, ty, pos, after, guard⟩) v h' := by
      intro X hc hi
      simp only [Option.bind_eq_some_iff, Option.some.injEq] at hc
      obtain ⟨x', hx, y', hy, rfl⟩ := hc
      obtain ⟨r, h1, h2⟩ := Option.map_eq_some_iff.1 hi
      simp only [Ans.val.injEq] at h2
      obtain ⟨rfl, rfl⟩ := h2
      exact (binop_rel h1 (hρ _ (by simp [Op.operands]) _ hx) (hρ _ (by simp [Op.operands]) _ hy) t x y).stp W
    split at hc
    · exact bin hc hi
    · exact bin hc hi
    · rename_i hni hns
      split at hc
      · simp at hc
      · rename_i hagg
        have hni' : ∀ k, P.underlying t ≠ some (.int k) := fun k e => hni k e
        have hns' : P.underlying t ≠ some .string := fun e => hns e
        have hfl : ∀ {d : EqD}, eqdOf P 20 t = some d → ¬ d.flat = true → P.eqGuardType P.depth t = false := fun hd hn => by
          by_cases ha : aggDesc (P.underlying t) = true
          · simpa [ha] using hagg
          · exact absurd (flat_of hd (fun fs e => ha (by rw [e]; rfl)) (fun k q e => ha (by rw [e]; rfl))) hn
        cases op <;> simp only [Option.bind_eq_some_iff, Option.map_eq_some_iff, reduceCtorEq] at hc
        · obtain ⟨x', hx, y', hy, d, hd, rfl⟩ := hc
          by_cases hf : d.flat = true
          · obtain ⟨rfl, hp⟩ := eq_step (P := P) (w := w) (op := .eql) (neg := false) rfl (fun z hz => hρ z (by simpa [Op.operands] using hz)) hx hy hd hf hni' hns' hi
            exact hp.stp W
          · obtain ⟨rfl, hp⟩ := eq_agg_step (P := P) (w := w) (op := .eql) (neg := false) rfl (fun z hz => hρ z (by simpa [Op.operands] using hz)) hx hy hd hf (hfl hd hf) hi
            exact hp.stp W
        · obtain ⟨x', hx, y', hy, d, hd, rfl⟩ := hc
          by_cases hf : d.flat = true
          · obtain ⟨rfl, hp⟩ := eq_step (P := P) (w := w) (op := .neq) (neg := true) rfl (fun z hz => hρ z (by simpa [Op.operands] using hz)) hx hy hd hf hni' hns' hi
            exact hp.stp W
          · obtain ⟨rfl, hp⟩ := eq_agg_step (P := P) (w := w) (op := .neq) (neg := true) rfl (fun z hz => hρ z (by simpa [Op.operands] using hz)) hx hy hd hf (hfl hd hf) hi
            exact hp.stp W
  | unOp op t x =>
    simp only [compOp, Option.bind_eq_some_iff, Option.some.injEq] at hc
    obtain ⟨x', hx, rfl⟩ := hc
    obtain ⟨r, h1, h2⟩ := Option.map_eq_some_iff.1 hi
    simp only [Ans.val.injEq] at h2
    obtain ⟨rfl, rfl⟩ := h2
    exact (unop_rel h1 (hρ _ (by simp [Op.operands]) _ hx)).stp W
  | convert s d x =>
    simp only [compOp] at hc
    split at hc
    · rename_i ks kd hs hd
      simp only [Option.bind_eq_some_iff, Option.some.injEq] at hc
      obtain ⟨x', hx, rfl⟩ := hc
      obtain ⟨n, h1, h2⟩ := Option.map_eq_some_iff.1 hi
      simp only [Ans.val.injEq] at h2
      obtain ⟨rfl, rfl⟩ := h2
      obtain ⟨k, hk⟩ := asI_rel h1 (hρ _ (by simp [Op.operands]) _ hx)
      exact Pl.stp W ⟨.int kd (kd.wrap n), by rw [hk]; simp [convert, run_underlying hs, run_underlying hd, Conv.intToInt], rfl⟩
    · rename_i ks hs hd
      simp only [Option.bind_eq_some_iff, Option.some.injEq] at hc
      obtain ⟨x', hx, rfl⟩ := hc
      obtain ⟨n, h1, h2⟩ := Option.map_eq_some_iff.1 hi
      simp only [Ans.val.injEq] at h2
      obtain ⟨rfl, rfl⟩ := h2
      obtain ⟨k, hk⟩ := asI_rel h1 (hρ _ (by simp [Op.operands]) _ hx)
      refine Pl.stp W ⟨.string (Utf8.encode n), by rw [hk]; simp [convert, run_underlying hs, run_underlying hd, Conv.intToString], ?_⟩
      show _ = _
      rw [bytes_list]
    · rename_i hs hd
      simp only [Option.bind_eq_some_iff, Option.some.injEq] at hc
      obtain ⟨x', hx, rfl⟩ := hc
      have hX := hρ _ (by simp [Op.operands]) _ hx
      simp only [iop] at hi
      split at hi
      · rename_i q he
        rw [he] at hX
        simp only [Option.some.injEq, Ans.val.injEq] at hi
        obtain ⟨rfl, rfl⟩ := hi
        exact Pl.stp W ⟨_, by rw [show ρ x = _ from hX]; simp [convert, run_underlying hs, run_underlying hd], rfl⟩
      · simp at hi
    · rename_i e hs hd
      split at hc
      · rename_i he8
        simp only [Option.bind_eq_some_iff, Option.some.injEq] at hc
        obtain ⟨x', hx, rfl⟩ := hc
        have hX := hρ _ (by simp [Op.operands]) _ hx
        simp only [iop] at hi
        split at hi
        · rename_i q he
          rw [he] at hX
          split at hi
          · rename_i hl
            simp only [Option.some.injEq, Ans.val.injEq] at hi
            obtain ⟨rfl, rfl⟩ := hi
            exact (cvSB_rs W hs hd he8 hl hX).stp
          · simp at hi
        · simp at hi
      · simp at hc
    · rename_i e hs hd
      split at hc
      · rename_i he8
        simp only [Option.bind_eq_some_iff, Option.some.injEq] at hc
        obtain ⟨x', hx, rfl⟩ := hc
        have hX := hρ _ (by simp [Op.operands]) _ hx
        simp only [iop] at hi
        split at hi
        · rename_i he
          rw [he] at hX
          simp only [Option.some.injEq, Ans.val.injEq] at hi
          obtain ⟨rfl, rfl⟩ := hi
          exact (cvBS_rs W hs he8 hd (a := .nils) (s := []) rfl hX).stp W
        · rename_i a n c he
          rw [he] at hX
          split at hi
          · rename_i cs hcs
            obtain ⟨q, h1, h2⟩ := Option.map_eq_some_iff.1 hi
            simp only [Ans.val.injEq] at h2
            obtain ⟨rfl, rfl⟩ := h2
            exact (cvBS_rs W hs he8 hd (a := .sl a n c) (s := q) (by simp [hcs, h1]) hX).stp W
          · simp at hi
        · simp at hi
      · simp at hc
    · rename_i es e hs hd
      split at hc
      · rename_i he8
        split at hc
        · rename_i hsd
          have hsd : s = d := by simpa using hsd
          subst hsd
          simp only [Option.bind_eq_some_iff, Option.some.injEq] at hc
          obtain ⟨x', hx, rfl⟩ := hc
          have hX := hρ _ (by simp [Op.operands]) _ hx
          simp only [iop] at hi
          split at hi
          · rename_i a n c he
            rw [he] at hX
            split at hi
            · rename_i g eb cs fz ro hg
              split at hi
              · rename_i hcond
                simp only [Bool.and_eq_true, Bool.not_eq_true', beq_iff_eq] at hcond
                obtain ⟨⟨⟨hgen, rfl⟩, rfl⟩, hcx⟩ := hcond
                simp only [Option.some.injEq, Ans.val.injEq] at hi
                obtain ⟨rfl, rfl⟩ := hi
                exact (cvBB_rs W hd he8 hg hgen (by rintro rfl; simp [capPos] at hcx) hX).stp
              · simp at hi
            · simp at hi
          · simp at hi
        · simp at hc
      · simp at hc
    · simp at hc
  | sliceToArrayPointer d x =>
    simp only [compOp] at hc
    split at hc
    · rename_i n e ht
      simp only [Option.bind_eq_some_iff, Option.some.injEq] at hc
      obtain ⟨x', hx, rfl⟩ := hc
      have hX := hρ _ (by simp [Op.operands]) _ hx
      simp only [iop] at hi
      split at hi
      · rename_i he
        rw [he] at hX
        split at hi
        · rename_i h0
          have h0 : n = 0 := by simpa using h0
          subst h0
          simp only [Option.some.injEq, Ans.val.injEq] at hi
          obtain ⟨rfl, rfl⟩ := hi
          exact (sapN_rs ht hX).stp W
        · simp at hi
      · rename_i a m c he
        rw [he] at hX
        split at hi
        · rename_i h0
          simp only [Bool.and_eq_true, decide_eq_true_eq] at h0
          simp only [Option.some.injEq, Ans.val.injEq] at hi
          obtain ⟨rfl, rfl⟩ := hi
          exact (sap_rs ht h0.1 h0.2 hX).stp W
        · simp at hi
      · simp at hi
    · simp at hc
  | makeInterface t x =>
    simp only [compOp] at hc
    split at hc
    · simp at hc
    · rename_i d hne ht
      simp only [Option.bind_eq_some_iff, Option.some.injEq] at hc
      obtain ⟨x', hx, rfl⟩ := hc
      simp only [iop, Option.some.injEq, Ans.val.injEq] at hi
      obtain ⟨rfl, rfl⟩ := hi
      refine Pl.stp W ⟨.iface t (ρ x), ?_, _, rfl, hρ _ (by simp [Op.operands]) _ hx⟩
      simp only [Instr.makeInterface, Sem.run_bind, run_underlying ht, Result.andThen_ok]
      cases d <;> first | rfl | exact absurd ht (hne _)
    · simp at hc
  | makeFunc f a c =>
    simp only [compOp] at hc
    split at hc
    · simp at hc
    · simp only [Option.bind_eq_some_iff, Option.map_eq_some_iff] at hc
      obtain ⟨a', ha, c', hc', rfl⟩ := hc
      simp only [iop, Option.some.injEq, Ans.val.injEq] at hi
      obtain ⟨rfl, rfl⟩ := hi
      refine Pl.stp W ⟨.func f (a.map ρ) (c.map ρ), by simp [Instr.makeFunc], _, _, rfl, ?_, ?_⟩
      · simpa using ofOpds_rel a.toList _ (fun y hy => hρ y (by simp at hy; simp [Op.operands, hy])) ha
      · simpa using ofOpds_rel c.toList _ (fun y hy => hρ y (by simp at hy; simp [Op.operands, hy])) hc'
  | makeMap t r =>
    cases r with
    | some r => simp [compOp] at hc
    | none =>
      simp only [compOp, Option.some.injEq] at hc
      subst hc
      simp only [iop, Option.some.injEq, Ans.val.injEq] at hi
      obtain ⟨rfl, rfl⟩ := hi
      have hW := W.new w rfl rfl rfl rfl (.map [] 0) (.map #[] 0) 0 rfl rfl ⟨#[], rfl, rfl⟩
      exact Rs.stp ⟨.map (some w.heap.size), _, _, by simp [Instr.makeMap], ⟨_, Mu.put_at _ _ _ _, rfl⟩, hW⟩
  | makeSlice t l c =>
    simp only [compOp] at hc
    split at hc
    · rename_i e ht
      split at hc
      · rename_i i z hinfo hz
        split at hc
        · rename_i hcond
          simp only [Bool.and_eq_true, decide_eq_true_eq, beq_iff_eq] at hcond
          simp only [Option.bind_eq_some_iff, Option.some.injEq] at hc
          obtain ⟨l', hl, c', hc', rfl⟩ := hc
          simp only [iop] at hi
          split at hi
          · rename_i ln cn h1 h2
            split at hi
            · rename_i hb
              simp only [Bool.and_eq_true, decide_eq_true_eq] at hb
              obtain ⟨⟨⟨hb1, hb2⟩, hb3⟩, hb4⟩ := hb
              simp only [Option.some.injEq, Ans.val.injEq] at hi
              obtain ⟨rfl, rfl⟩ := hi
              exact (mkS_rs W ht hinfo hz hcond.1 hcond.2 h1 h2 hb1 hb2 hb3 hb4 (hρ _ (by simp [Op.operands]) _ hl) (hρ _ (by simp [Op.operands]) _ hc')).stp
            · simp at hi
          · simp at hi
        · simp at hc
      · simp at hc
    · simp at hc
  | slice t x lo hi' mx =>
    simp only [compOp, Option.bind_eq_some_iff] at hc
    obtain ⟨x', hx, lo', hlo, hi2, hhi, mx', hmx, hc⟩ := hc
    split at hc
    · rename_i ht
      split at hc
      · rename_i hnone
        simp only [Option.some.injEq] at hc
        subst hc
        cases mx with
        | some m => simp only [ofOpt, Option.map_eq_some_iff] at hmx; obtain ⟨_, _, rfl⟩ := hmx; simp at hnone
        | none =>
          have hX := hρ _ (by simp [Op.operands]) _ hx
          simp only [iop] at hi
          split at hi
          · rename_i s he
            rw [he] at hX
            split at hi
            · rename_i l hh m hb
              simp only [Option.some.injEq, Ans.val.injEq] at hi
              obtain ⟨rfl, rfl⟩ := hi
              exact (slS_rs ht hb (ofOpt_rel (fun y hy => hρ y (mem_slice (by simp [hy]))) hlo) (ofOpt_rel (fun y hy => hρ y (mem_slice (by simp [hy]))) hhi) hX).stp W
            · simp at hi
          · simp at hi
      · simp at hc
    · rename_i e ht
      obtain ⟨s, hs, rfl⟩ := Option.map_eq_some_iff.1 hc
      obtain ⟨rfl, hp⟩ := sl_slice (P := P) (w := w) ht hs (fun y hy => hρ y (mem_slice hy)) hx hlo hhi hmx hi
      exact hp.stp W
    · rename_i n e ht
      obtain ⟨s, hs, rfl⟩ := Option.map_eq_some_iff.1 hc
      obtain ⟨rfl, hp⟩ := sl_array (P := P) (w := w) (arr := 0) (.inl ht) hs (fun y hy => hρ y (mem_slice hy)) hx hlo hhi hmx hi
      exact hp.stp W
    · rename_i arr ht
      split at hc
      · rename_i n e hu
        obtain ⟨s, hs, rfl⟩ := Option.map_eq_some_iff.1 hc
        obtain ⟨rfl, hp⟩ := sl_array (P := P) (w := w) (.inr ⟨ht, hu⟩) hs (fun y hy => hρ y (mem_slice hy)) hx hlo hhi hmx hi
        exact hp.stp W
      · simp at hc
    · simp at hc
  | fieldAddr t x i =>
    simp only [compOp] at hc
    split at hc
    · rename_i fs ht
      split at hc
      · rename_i f hf
        split at hc
        · rename_i k hk
          simp only [Option.bind_eq_some_iff, Option.some.injEq] at hc
          obtain ⟨x', hx, rfl⟩ := hc
          have hX := hρ _ (by simp [Op.operands]) _ hx
          simp only [iop] at hi
          split at hi
          · rename_i a he
            rw [he] at hX
            simp only [Option.some.injEq, Ans.val.injEq] at hi
            obtain ⟨rfl, rfl⟩ := hi
            exact (fa_rs ht hf hk hX).stp W
          · simp at hi
        · simp at hc
      · simp at hc
    · simp at hc
  | field t x i =>
    simp only [compOp] at hc
    split at hc
    · rename_i fs ht
      split at hc
      · rename_i f hf
        simp only [Option.bind_eq_some_iff, Option.some.injEq] at hc
        obtain ⟨g, hg, x', hx, rfl⟩ := hc
        have hX := hρ _ (by simp [Op.operands]) _ hx
        simp only [iop] at hi
        split at hi
        · rename_i cs he
          rw [he] at hX
          obtain ⟨r, h1, h2⟩ := Option.map_eq_some_iff.1 hi
          simp only [Ans.val.injEq] at h2
          obtain ⟨rfl, rfl⟩ := h2
          exact (fd_rs ht hf hg h1 hX).stp W
        · simp at hi
      · simp at hc
    · simp at hc
  | indexAddr t x i =>
    simp only [compOp] at hc
    split at hc
    · rename_i e ht
      simp only [Option.bind_eq_some_iff, Option.some.injEq] at hc
      obtain ⟨s, hs, x', hx, i', hi', rfl⟩ := hc
      have hX := hρ _ (by simp [Op.operands]) _ hx
      simp only [iop] at hi
      split at hi
      · rename_i a n c k he hk
        rw [he] at hX
        split at hi
        · rename_i hb
          simp only [Bool.and_eq_true, decide_eq_true_eq] at hb
          simp only [Option.some.injEq, Ans.val.injEq] at hi
          obtain ⟨rfl, rfl⟩ := hi
          exact (ia_rs ht hs hk hb.1 hb.2 hX (hρ _ (by simp [Op.operands]) _ hi')).stp W
        · simp at hi
      · simp at hi
    · rename_i n e ht
      simp only [Option.bind_eq_some_iff, Option.some.injEq] at hc
      obtain ⟨s, hs, x', hx, i', hi', rfl⟩ := hc
      have hX := hρ _ (by simp [Op.operands]) _ hx
      simp only [iop] at hi
      split at hi
      · rename_i a k he hk
        rw [he] at hX
        split at hi
        · rename_i hb
          simp only [Bool.and_eq_true, decide_eq_true_eq] at hb
          simp only [Option.some.injEq, Ans.val.injEq] at hi
          obtain ⟨rfl, rfl⟩ := hi
          exact (iaA_rs ht hs hk hb.1 hb.2 hX (hρ _ (by simp [Op.operands]) _ hi')).stp W
        · simp at hi
      · simp at hi
    · simp at hc
  | index t x i =>
    simp only [compOp] at hc
    split at hc
    · rename_i ht
      simp only [Option.bind_eq_some_iff, Option.some.injEq] at hc
      obtain ⟨x', hx, i', hi', rfl⟩ := hc
      have hX := hρ _ (by simp [Op.operands]) _ hx
      simp only [iop] at hi
      split at hi
      · rename_i s k he hk
        rw [he] at hX
        split at hi
        · rename_i h0
          obtain ⟨b, h1, h2⟩ := Option.map_eq_some_iff.1 hi
          simp only [Ans.val.injEq] at h2
          obtain ⟨rfl, rfl⟩ := h2
          exact (ixS_rs ht hk h0 h1 hX (hρ _ (by simp [Op.operands]) _ hi')).stp W
        · simp at hi
      · simp at hi
    · rename_i n e ht
      simp only [Option.bind_eq_some_iff, Option.some.injEq] at hc
      obtain ⟨s, hs, g, hg, x', hx, i', hi', rfl⟩ := hc
      have hX := hρ _ (by simp [Op.operands]) _ hx
      simp only [iop] at hi
      split at hi
      · rename_i cs k he hk
        rw [he] at hX
        split at hi
        · rename_i hb
          simp only [Bool.and_eq_true, decide_eq_true_eq] at hb
          obtain ⟨r, h1, h2⟩ := Option.map_eq_some_iff.1 hi
          simp only [Ans.val.injEq] at h2
          obtain ⟨rfl, rfl⟩ := h2
          exact (ixA_rs ht hs hg hk hb.1 hb.2 h1 hX (hρ _ (by simp [Op.operands]) _ hi')).stp W
        · simp at hi
      · simp at hi
    · simp at hc
  | extract x i =>
    simp only [compOp, Option.bind_eq_some_iff, Option.some.injEq] at hc
    obtain ⟨x', hx, rfl⟩ := hc
    have hX := hρ _ (by simp [Op.operands]) _ hx
    simp only [iop] at hi
    split at hi
    · rename_i vs he
      rw [he] at hX
      obtain ⟨r, h1, h2⟩ := Option.map_eq_some_iff.1 hi
      simp only [Ans.val.injEq] at h2
      obtain ⟨rfl, rfl⟩ := h2
      exact (ext_rs h1 hX).stp W
    · simp at hi
  | range t x =>
    simp only [compOp] at hc
    split at hc
    · rename_i ht
      simp only [Option.bind_eq_some_iff, Option.some.injEq] at hc
      obtain ⟨x', hx, rfl⟩ := hc
      have hX := hρ _ (by simp [Op.operands]) _ hx
      simp only [iop] at hi
      split at hi
      · rename_i s he
        rw [he] at hX
        simp only [Option.some.injEq, Ans.val.injEq] at hi
        obtain ⟨rfl, rfl⟩ := hi
        exact (iter_rs W ht hX).stp
      · simp at hi
    · simp at hc
  | next x is =>
    cases is with
    | false => simp [compOp] at hc
    | true =>
      simp only [compOp, Option.bind_eq_some_iff, Option.some.injEq] at hc
      obtain ⟨x', hx, rfl⟩ := hc
      have hX := hρ _ (by simp [Op.operands]) _ hx
      simp only [iop] at hi
      split at hi
      · rename_i b he
        rw [he] at hX
        split at hi
        · rename_i s pos' hg
          refine Rs.stp (next_rs W hg hX ty ?_)
          split at hi
          · rename_i hlt
            simp only [Option.some.injEq, Ans.val.injEq] at hi
            rw [if_pos hlt, ← hi.1, ← hi.2]
          · rename_i hlt
            simp only [Option.some.injEq, Ans.val.injEq] at hi
            rw [if_neg hlt, ← hi.1, ← hi.2]
        · simp at hi
      · simp at hi
  | lookup t x i ok =>
    simp only [compOp] at hc
    have key : ∀ {kt e : TypeId} {kind : TypeDesc} {d : EqD}, P.underlying t = some (.map kt e) → P.underlying kt = some kind → KeyD kind d → ((zeroT P e).bind fun z => (ofOpd P x).bind fun x => (ofOpd P i).bind fun i => some (IOp.look d z ok x i)) = some X → Stp P μ w0 ng h w (execOp ρ ⟨dst, .lookup t x i ok, ty, pos, after, guard⟩) v h' := by
      intro kt e kind d ht hkt hk hc
      simp only [Option.bind_eq_some_iff, Option.some.injEq] at hc
      obtain ⟨z, hz, x', hx, i', hi', rfl⟩ := hc
      obtain ⟨rfl, hv⟩ := iop_look hi
      exact (look_pl ht hkt hk hz W ok hv (hρ _ (by simp [Op.operands]) _ hx) (hρ _ (by simp [Op.operands]) _ hi')).stp W
    split at hc
    · rename_i kt e ht
      split at hc
      · rename_i hkt; exact key ht hkt (.inl ⟨rfl, rfl⟩) hc
      · rename_i q hkt; exact key ht hkt (.inr ⟨q, rfl, rfl⟩) hc
      · simp at hc
    · simp at hc
  | mapUpdate t m k u =>
    simp only [compOp] at hc
    have key : ∀ {kt e : TypeId} {kind : TypeDesc} {d : EqD}, P.underlying t = some (.map kt e) → P.underlying kt = some kind → KeyD kind d → ((ofOpd P m).bind fun m => (ofOpd P k).bind fun k => (ofOpd P u).bind fun v => some (IOp.upd d m k v)) = some X → Stp P μ w0 ng h w (execOp ρ ⟨dst, .mapUpdate t m k u, ty, pos, after, guard⟩) v h' := by
      intro kt e kind d ht hkt hk hc
      simp only [Option.bind_eq_some_iff, Option.some.injEq] at hc
      obtain ⟨m', hm, k', hkk, u', hu, rfl⟩ := hc
      obtain ⟨rfl, r, er, hv⟩ := iop_upd hi
      obtain ⟨w', h1, h2, h3⟩ := upd_rs ht hkt hk W (by rw [← er]; exact hρ _ (by simp [Op.operands]) _ hm) (hρ _ (by simp [Op.operands]) _ hkk) (hρ _ (by simp [Op.operands]) _ hu) hv
      exact ⟨.skip, undef, w', μ, by simp only [execOp, Sem.run_bind, h1, Result.andThen_ok, Sem.run_pure], .inr ⟨rfl, rfl⟩, ⟨_, rfl, rfl⟩, h2, h3⟩
    split at hc
    · rename_i kt e ht
      split at hc
      · rename_i hkt; exact key ht hkt (.inl ⟨rfl, rfl⟩) hc
      · rename_i q hkt; exact key ht hkt (.inr ⟨q, rfl, rfl⟩) hc
      · simp at hc
    · simp at hc
  | insert t m k u =>
    simp only [compOp] at hc
    have key : ∀ {kt e : TypeId} {kind : TypeDesc} {d : EqD}, P.underlying t = some (.map kt e) → P.underlying kt = some kind → KeyD kind d → ((ofOpd P m).bind fun m => (ofOpd P k).bind fun k => (ofOpd P u).bind fun v => some (IOp.upd d m k v)) = some X → Stp P μ w0 ng h w (execOp ρ ⟨dst, .insert t m k u, ty, pos, after, guard⟩) v h' := by
      intro kt e kind d ht hkt hk hc
      simp only [Option.bind_eq_some_iff, Option.some.injEq] at hc
      obtain ⟨m', hm, k', hkk, u', hu, rfl⟩ := hc
      obtain ⟨rfl, r, er, hv⟩ := iop_upd hi
      obtain ⟨w', h1, h2, h3⟩ := upd_rs ht hkt hk W (by rw [← er]; exact hρ _ (by simp [Op.operands]) _ hm) (hρ _ (by simp [Op.operands]) _ hkk) (hρ _ (by simp [Op.operands]) _ hu) hv
      exact ⟨.skip, undef, w', μ, by simp only [execOp, Sem.run_bind, h1, Result.andThen_ok, Sem.run_pure], .inr ⟨rfl, rfl⟩, ⟨_, rfl, rfl⟩, h2, h3⟩
    split at hc
    · rename_i kt e ht
      split at hc
      · rename_i hkt; exact key ht hkt (.inl ⟨rfl, rfl⟩) hc
      · rename_i q hkt; exact key ht hkt (.inr ⟨q, rfl, rfl⟩) hc
      · simp at hc
    · simp at hc
  | call c => exact call_step hc hρ W hi dst pos after guard
  | panic x => simp only [compOp, Option.some.injEq] at hc; subst hc; simp [iop] at hi
  | _ => simp [compOp] at hc

end
end Go.Det
