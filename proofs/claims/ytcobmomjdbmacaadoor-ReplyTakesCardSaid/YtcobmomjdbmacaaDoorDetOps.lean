/- Each operation of the deterministic machine against the real one. -/
import Derived.Test.YtcobmomjdbmacaaDoorDetOpsF
set_option linter.unusedVariables false
set_option linter.unusedSimpArgs false
set_option linter.unusedSectionVars false
namespace Go.Det
open Go.RowKit

section
variable {P : Program} {μ : Mu} {w0 : World} {ng : Nat} {h : H} {w : World}

/-! ### copy, conversions of a row to a row -/


theorem srcFirst_rel (W : WRel μ w0 ng h w) {sz k : Nat} {y : AV} {cs : List AV} (hs : srcFirst h sz k y = some cs) (hk : ∀ a n c, y = .sl a n c → k ≤ n) {y' : Value} (hy : VRel μ y y') :
    ∃ vs : List Value, (Builtin.firstCells sz k y').run P w = .ok vs.toArray w ∧ VRels μ cs vs := by
  cases y <;> simp only [srcFirst, reduceCtorEq] at hs
  · rename_i s
    split at hs
    · simp only [Option.some.injEq] at hs
      subst hs
      cases hy
      refine ⟨(s.take k).map fun b => Value.int .u8 b.toNat, ?_, bytesAV_rel _⟩
      rw [show Builtin.firstCells sz k (Value.string ⟨s.toArray⟩) = pure (((⟨s.toArray⟩ : ByteArray).extract 0 k).data.map fun b => .int .u8 b.toNat) from rfl, ba_extract]
      simp
    · simp at hs
  · simp only [Option.some.injEq] at hs
    subst hs
    cases hy
    exact ⟨[], by simp [Builtin.firstCells], VRels.nil⟩
  · rename_i a n c
    have hkn := hk _ _ _ rfl
    have key : ∀ (rb : RB) (o q : Nat), μ a.b a.g = some rb → (o = a.o ∨ k = 0) → ∃ vs : List Value, (Builtin.firstCells sz k (.slice (some ⟨rb.r, o, none⟩) n q)).run P w = .ok vs.toArray w ∧ VRels μ cs vs := by
      intro rb o q hm ho
      obtain ⟨vs, h3, h4, h5⟩ := W.ldn P hs hm
      refine ⟨vs, ?_, h5⟩
      rcases ho with rfl | rfl
      · simpa [Builtin.firstCells] using h3
      · have : vs = [] := by simpa using h4
        subst this
        simp [Builtin.firstCells, loadCells, loadCellsFrom]
    cases c with
    | ex c =>
      rcases hy with ⟨rb, hm, rfl, _⟩ | ⟨rfl, rfl, ad, rfl⟩
      · exact key rb a.o c hm (.inl rfl)
      · have hk0 : k = 0 := by omega
        subst hk0
        refine ⟨[], by simp [Builtin.firstCells, loadCells, loadCellsFrom], ?_⟩
        have : cs = [] := by
          simp only [Nat.zero_mul, H.ldn] at hs
          split at hs
          · exact List.eq_nil_of_length_eq_zero (cut_pre (m := 0) hs)
          · simp at hs
        rw [this]
        exact VRels.nil
    | op e => obtain ⟨rb, o, c, hm, rfl, hn, _, ho⟩ := hy; exact key rb o c hm (by rcases ho with ho | ho; exact .inl ho.1; exact .inr (by omega))

theorem srcLen_rel {y : AV} {m : Nat} (hm : srcLen y = some m) {y' : Value} (hy : VRel μ y y') : (Builtin.lenOf y').run P w = .ok m w := by
  cases y <;> simp only [srcLen, Option.some.injEq, reduceCtorEq] at hm
  · subst hm; cases hy; rfl
  · subst hm; cases hy; rfl
  · subst hm; obtain ⟨_, _, rfl⟩ := sl_of hy; rfl

theorem copy_rs (W : WRel μ w0 ng h w) {t u ty e : TypeId} (ht : P.underlying t = some (.slice e)) {sz : Nat} (hs : sizeT P e = some sz) {x y v : AV} {h' : H}
    (hv : (match x, srcLen y with
      | .nils, some _ => some (Ans.val (.int .i64 0) h)
      | .sl a n _, some m => match srcFirst h sz (Nat.min m n) y with
        | some cs => (h.st a cs).map fun h' => Ans.val (.int .i64 (Nat.min m n : Nat)) h'
        | none => none
      | _, _ => none) = some (.val v h')) {x' y' : Value} (hx : VRel μ x x') (hy : VRel μ y y') :
    Rs P μ w0 ng h w (Builtin.copy_ #[t, u] ty #[x', y']) v h' := by
  split at hv
  · rename_i m hm
    simp only [Option.some.injEq, Ans.val.injEq] at hv
    obtain ⟨rfl, rfl⟩ := hv
    cases hx
    have hl := srcLen_rel (P := P) (w := w) hm hy
    have h0 : (Builtin.firstCells sz 0 y').run P w = .ok #[] w := by
      cases y <;> simp only [srcLen, reduceCtorEq] at hm
      · cases hy
        rename_i s
        rw [show Builtin.firstCells sz 0 (Value.string ⟨s.toArray⟩) = pure (((⟨s.toArray⟩ : ByteArray).extract 0 0).data.map fun b => .int .u8 b.toNat) from rfl, ba_extract]
        simp
      · cases hy; simp [Builtin.firstCells]
      · obtain ⟨_, _, rfl⟩ := sl_of hy; simp [Builtin.firstCells, loadCells, loadCellsFrom]
    refine Pl.rs W ⟨goInt 0, ?_, rfl⟩
    simp only [Builtin.copy_, List.getElem?_toArray, List.getElem?_cons_zero, List.getElem?_cons_succ, Sem.run_bind, run_underlying ht, Result.andThen_ok, hl, run_size hs]
    rw [show Nat.min m 0 = 0 from Nat.min_zero m, h0]
    rfl
  · rename_i a n c m hm
    split at hv
    · rename_i cs hcs
      obtain ⟨h1, h2, h3⟩ := Option.map_eq_some_iff.1 hv
      simp only [Ans.val.injEq] at h3
      obtain ⟨rfl, rfl⟩ := h3
      have hl := srcLen_rel (P := P) (w := w) hm hy
      obtain ⟨vs, h4, h5⟩ := srcFirst_rel (P := P) W hcs (fun a' n' c' e => by subst e; simp only [srcLen, Option.some.injEq] at hm; subst hm; exact Nat.min_le_left _ _) hy
      have key : ∀ (rb : RB) (o q : Nat), μ a.b a.g = some rb → (o = a.o ∨ n = 0) → Rs P μ w0 ng h w (Builtin.copy_ #[t, u] ty #[.slice (some ⟨rb.r, o, none⟩) n q, y']) (.int .i64 (Nat.min m n : Nat)) h1 := by
        intro rb o q hmm ho
        obtain ⟨w', r1, r2, r3⟩ := W.st P h2 h5 hmm
        have r1' : (storeCells ⟨rb.r, o, none⟩ vs).run P w = .ok () w' := by
          rcases ho with rfl | rfl
          · exact r1
          · have hk : Nat.min m 0 = 0 := Nat.min_zero m
            rw [hk] at hcs h4
            have : vs = [] := by
              have hlen := h5.length
              have : cs = [] := by
                cases y <;> simp only [srcFirst, reduceCtorEq] at hcs
                · split at hcs
                  · simpa [bytesAV] using hcs.symm
                  · simp at hcs
                · simpa using hcs.symm
                · simp only [Nat.zero_mul, H.ldn] at hcs
                  split at hcs
                  · exact List.eq_nil_of_length_eq_zero (cut_pre (m := 0) hcs)
                  · simp at hcs
              subst this
              exact List.eq_nil_of_length_eq_zero hlen.symm
            subst this
            exact r1
        refine ⟨goInt (Nat.min m n : Nat), w', μ, ?_, rfl, r2, r3⟩
        simp only [Builtin.copy_, List.getElem?_toArray, List.getElem?_cons_zero, List.getElem?_cons_succ, Sem.run_bind, run_underlying ht, Result.andThen_ok, hl, run_size hs, h4, r1', Sem.run_pure]
      cases c with
      | ex c =>
        rcases hx with ⟨rb, hmm, rfl, _⟩ | ⟨rfl, rfl, ad, rfl⟩
        · exact key rb a.o c hmm (.inl rfl)
        · have hk : Nat.min m 0 = 0 := Nat.min_zero m
          rw [hk] at hcs h4 ⊢
          have hcs0 : cs = [] := by
            cases y <;> simp only [srcFirst, reduceCtorEq] at hcs
            · split at hcs
              · simpa [bytesAV] using hcs.symm
              · simp at hcs
            · simpa using hcs.symm
            · simp only [Nat.zero_mul, H.ldn] at hcs
              split at hcs
              · exact List.eq_nil_of_length_eq_zero (cut_pre (m := 0) hcs)
              · simp at hcs
          subst hcs0
          have hvs : vs = [] := List.eq_nil_of_length_eq_zero h5.length.symm
          subst hvs
          have hsame : (∀ q, h1.get q = h.get q) ∧ h1.n = h.n := st_nil h2
          refine ⟨goInt 0, w, μ, ?_, rfl, W.same hsame.1 hsame.2, Adv.same hsame.1 hsame.2⟩
          simp only [Builtin.copy_, List.getElem?_toArray, List.getElem?_cons_zero, List.getElem?_cons_succ, Sem.run_bind, run_underlying ht, Result.andThen_ok, hl, run_size hs, hk, h4, storeCells, Sem.run_pure]
          rfl
      | op e => obtain ⟨rb, o, c, hmm, rfl, hn, _, ho⟩ := hx; exact key rb o c hmm (by rcases ho with ho | ho; exact .inl ho.1; exact .inr (by omega))
    · simp at hv
  · simp at hv

theorem cvBB_rs (W : WRel μ w0 ng h w) {t e : TypeId} (ht : P.underlying t = some (.slice e)) (he : P.underlying e = some (.int .u8)) {a : AA} {n : Nat} {c : Cp} {g : Nat} {eb : TypeId} {cs : List AV} (hg : h.get a.b = some (.cells g eb cs 0 false)) (hgen : g = a.g) (hc0 : c ≠ .ex 0)
    {x : Value} (hx : VRel μ (.sl a n c) x) : Rs P μ w0 ng h w (convert t t x) (.sl a n c) h := by
  subst hgen
  have hx0 := hx
  obtain ⟨rb, ad, k, hm, rfl, hb, hsp⟩ : ∃ rb ad k, μ a.b a.g = some rb ∧ x = .slice (some ad) n k ∧ ad.block = rb.r ∧ ad.spot = none := by
    cases c with
    | ex c =>
      rcases hx with ⟨rb, hm, rfl, _⟩ | ⟨rfl, rfl, ad, rfl⟩
      · exact ⟨rb, _, c, hm, rfl, rfl, rfl⟩
      · exact absurd rfl hc0
    | op e => obtain ⟨rb, o, c, hm, rfl, _⟩ := hx; exact ⟨rb, _, c, hm, rfl, rfl, rfl⟩
  obtain ⟨⟨ob, h1, h2⟩, h3⟩ := (W.blk _ _ rb hg hm).imp (fun x => x.own rfl) id
  obtain ⟨row, lo, hi, rfl, hsz, hpre, hlh, hfr⟩ := h2
  have hlt := W.dom _ _ _ hm
  let w' : World := w.freeze ⟨ad.block, row.size, none⟩ 1
  have hch : Chg w w' rb.r (.cells row eb (if lo == hi then (row.size, row.size + 1) else (min lo row.size, max hi (row.size + 1)))) := by
    refine ⟨rfl, rfl, rfl, by simp [w', World.freeze], ?_, ?_⟩
    · simp only [w', World.freeze, Nat.one_ne_zero, if_false, hb]
      rw [Array.getElem?_modify, if_pos rfl, h1]
      rfl
    · intro k hk hl
      simp only [w', World.freeze, Nat.one_ne_zero, if_false, hb]
      rw [Array.getElem?_modify, if_neg (Ne.symm hk)]
  have hB : ORel (μ.put a.b a.g rb) rb.n (.cells a.g eb cs 0 false) (.cells row eb (if lo == hi then (row.size, row.size + 1) else (min lo row.size, max hi (row.size + 1)))) := by
    rw [Mu.put_same hm]
    by_cases he : lo = hi
    · subst he
      simp only [BEq.rfl, if_true]
      exact ⟨row, _, _, rfl, hsz, hpre, Nat.le_succ _, fun i hi1 _ => .inr (by omega)⟩
    · have : (lo == hi) = false := by simpa using he
      rw [this]
      have hlo : rb.n ≤ lo := by rcases hfr lo (Nat.le_refl _) (by omega) with h | h <;> omega
      exact ⟨row, _, _, rfl, hsz, hpre, by omega, fun i hi1 _ => .inr (by omega)⟩
  have hW := W.upd a.b (.cells a.g eb cs 0 false) rb _ (h' := h) hg (fun _ _ => rfl) (Nat.le_refl _) hlt.2.1 hch (by simpa [w', World.freeze] using hlt.1) rfl (.inr ⟨_, rb, hg, hm, rfl, rfl⟩)
    (fun g rb1 e1 => by obtain ⟨_, _, B, h5, h6⟩ := W.dom _ _ _ e1; rw [hg] at h5; cases h5; exact h6) (fun rb1 e1 => by rw [show (Blk.cells a.g eb cs 0 false).gen = a.g from rfl, hm] at e1; exact (Option.some.inj e1).symm) hB
  rw [show (Blk.cells a.g eb cs 0 false).gen = a.g from rfl, Mu.put_same hm] at hW
  refine ⟨_, w', μ, ?_, hx0, hW⟩
  have hshape : w.shape? ad.block = some (eb, row.size) := by simp [World.shape?, hb, h1]
  simp [convert, run_underlying ht, run_underlying he, markStringish, hshape, w']

/-! ### The whole -/

/-- A step of the machine: what it hands on, and the state behind it. -/
def Stp (P : Program) (μ : Mu) (w0 : World) (ng : Nat) (h : H) (w : World) (s : Sem Next) (v : AV) (h' : H) : Prop :=
  ∃ nx v' w' μ', s.run P w = .ok nx w' ∧ (nx = .value v' ∨ (nx = .skip ∧ v' = undef)) ∧ VRel μ' v v' ∧ WRel μ' w0 ng h' w' ∧ Adv μ h w μ' h' w'

theorem Rs.stp {s : Sem Value} {v : AV} {h' : H} (hs : Rs P μ w0 ng h w s v h') : Stp P μ w0 ng h w (do pure (.value (← s))) v h' := by
  obtain ⟨v', w', μ', h1, h2⟩ := hs
  exact ⟨_, v', w', μ', by simp [h1], .inl rfl, h2⟩

theorem Pl.stp (W : WRel μ w0 ng h w) {s : Sem Value} {v : AV} (hs : Pl P μ w s v) : Stp P μ w0 ng h w (do pure (.value (← s))) v h := (hs.rs W).stp

theorem Stp.val (W : WRel μ w0 ng h w) {v : AV} {v' : Value} (hv : VRel μ v v') : Stp P μ w0 ng h w (pure (.value v')) v h :=
  ⟨_, v', w, μ, rfl, .inl rfl, hv, W, Adv.refl _ _ _⟩

theorem ofOpt_rel {ρA : IX → AV} {ρ : Operand → Value} {o : Option Operand} (hρ : ∀ x ∈ o.toList, ∀ X, ofOpd P x = some X → VRel μ (ρA X) (ρ x)) {O : Option IX} (ho : ofOpt P o = some O) : OptRel μ (O.map ρA) (o.map ρ) := by
  cases o with
  | none => simp only [ofOpt, Option.some.injEq] at ho; subst ho; trivial
  | some x =>
    simp only [ofOpt, Option.map_eq_some_iff] at ho
    obtain ⟨X, h1, rfl⟩ := ho
    exact hρ _ (by simp) _ h1

theorem ofOpds_rel {ρA : IX → AV} {ρ : Operand → Value} : ∀ (l : List Operand) (L : List IX), (∀ x ∈ l, ∀ X, ofOpd P x = some X → VRel μ (ρA X) (ρ x)) → ofOpds P l = some L → VRels μ (L.map ρA) (l.map ρ)
  | [], L, _, h => by simp only [ofOpds, Option.some.injEq] at h; subst h; exact VRels.nil
  | x :: l, L, hρ, h => by
    simp only [ofOpds] at h
    split at h
    · rename_i a r h1 h2
      simp only [Option.some.injEq] at h
      subst h
      exact ⟨_, _, rfl, hρ _ (by simp) _ h1, ofOpds_rel l r (fun y hy => hρ y (by simp [hy])) h2⟩
    · simp at h

end
end Go.Det
