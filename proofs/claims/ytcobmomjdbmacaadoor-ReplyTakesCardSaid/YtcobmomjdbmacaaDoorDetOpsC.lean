/- The deterministic machine's append, make, copy and literals, each against the real one. -/
import Derived.Deep.DeepAppendWide
import Derived.Test.YtcobmomjdbmacaaDoorDetOpsB
set_option linter.unusedVariables false
set_option linter.unusedSimpArgs false
set_option linter.unusedSectionVars false
namespace Go.Det
open Go.RowKit

section
variable {P : Program} {μ : Mu} {w0 : World} {ng : Nat} {h : H} {w : World}

/-- What a second operand of append, copy yields. -/
theorem src_rel (W : WRel μ w0 ng h w) {sz : Nat} {y : AV} {m : Nat} {new : List AV} (hs : srcCells h sz y = some (m, new)) (hone : new.all AV.one = true) {u : TypeId} {d : TypeDesc} (hu : P.underlying u = some d)
    (hd : srcOk d sz = true) (hk : ∀ s, y = .str s → d = .string) (hk' : (∀ s, y ≠ .str s) → d ≠ .string) {y' : Value} (hy : VRel μ y y') : ∃ news, Src P sz u y' m news w ∧ VRels μ new news := by
  cases y <;> simp only [srcCells, reduceCtorEq] at hs
  · rename_i s
    simp only [Option.some.injEq, Prod.mk.injEq] at hs
    obtain ⟨rfl, rfl⟩ := hs
    have := hk s rfl
    subst this
    have hsz : sz = 1 := by simpa [srcOk] using hd
    subst hsz
    cases hy
    exact ⟨_, Src.ofString w hu ⟨s.toArray⟩, bytesAV_rel s⟩
  · simp only [Option.some.injEq, Prod.mk.injEq] at hs
    obtain ⟨rfl, rfl⟩ := hs
    cases hy
    cases d <;> simp only [srcOk, Bool.false_eq_true] at hd
    · exact absurd rfl (hk' (by simp))
    · exact ⟨[], Src.ofNil w hu 0, VRels.nil⟩
  · rename_i a n c
    obtain ⟨r, h1, h2⟩ := Option.map_eq_some_iff.1 hs
    simp only [Prod.mk.injEq] at h2
    obtain ⟨rfl, rfl⟩ := h2
    cases d <;> simp only [srcOk, Bool.false_eq_true] at hd
    · exact absurd rfl (hk' (by simp))
    · rename_i e'
      have key : ∀ (rb : RB) (o k : Nat), μ a.b a.g = some rb → (o = a.o ∨ n = 0) → ∃ news, Src P sz u (.slice (some ⟨rb.r, o, none⟩) n k) n news w ∧ VRels μ r news := by
        intro rb o k hm ho
        unfold H.ldn at h1
        split at h1
        · rename_i c0 hr
          obtain ⟨c', e, fz, l', h3, h4, h8⟩ := W.row hr hm
          obtain ⟨vs, h5, h6, h7⟩ := h4.cut h1
          refine ⟨vs, Src.ofSlice w hu _ n k vs h5 ?_ (ones_of h6 hone), h6⟩
          intro j v hj
          rcases ho with rfl | rfl
          · rw [addr_add]; exact cell_at h3 (by rw [← h8 _ (Nat.le_add_right _ _)]; exact h7 j v hj)
          · have : vs = [] := by simpa using h5
            subst this
            simp at hj
        · simp at h1
      cases c with
      | ex c =>
        rcases hy with ⟨rb, hm, rfl, _⟩ | ⟨rfl, rfl, ad, rfl⟩
        · exact key rb a.o c hm (.inl rfl)
        · have hr0 : r = [] := by
            simp only [Nat.zero_mul, H.ldn] at h1
            split at h1
            · exact List.eq_nil_of_length_eq_zero (cut_pre (m := 0) h1)
            · simp at h1
          subst hr0
          exact ⟨[], Src.ofSlice w hu _ 0 0 [] (by simp) (by simp) (by simp), VRels.nil⟩
      | op e => obtain ⟨rb, o, c, hm, rfl, hn, _, ho⟩ := hy; exact key rb o c hm (by rcases ho with ho | ho; exact .inl ho.1; exact .inr (by omega))

theorem run_append_none {t tx ty e : TypeId} {i : TypeInfo} (ht : P.underlying t = some (.slice e)) (hi : P.info? e = some i) {base : Option Addr} {sLen sCap : Nat} {x : Value} {news : List Value} (hs : Src P i.size tx x 0 news w) (hle : sLen ≤ sCap) :
    (Builtin.append_ #[t, tx] ty #[.slice base sLen sCap, x]).run P w = .ok (.slice base sLen sCap) w := by
  have hn : news = [] := by have := hs.newsLen; simpa using this
  subst hn
  have hc := hs.cells
  rcases hs.kind with ⟨e', hk⟩ | hk <;> cases base <;> simp [Builtin.append_, run_underlying ht, run_underlying hk, sizeOf, typeInfo, hi, hs.len, hle, hc, storeCells]

theorem run_append_room' {t tx ty e : TypeId} {i : TypeInfo} (ht : P.underlying t = some (.slice e)) (hi : P.info? e = some i) {r sLen sCap n : Nat} {x : Value} {news : List Value} (hs : Src P i.size tx x n news w) (hroom : sLen + n ≤ sCap)
    {w' : World} (hst : (storeCells ⟨r, sLen * i.size, none⟩ news).run P w = .ok () w') :
    (Builtin.append_ #[t, tx] ty #[.slice (some ⟨r, 0, none⟩) sLen sCap, x]).run P w = .ok (.slice (some ⟨r, 0, none⟩) (sLen + n) sCap) w' := by
  rcases hs.kind with ⟨e', hk⟩ | hk <;> simp [Builtin.append_, run_underlying ht, run_underlying hk, sizeOf, typeInfo, hi, hs.len, hroom, hs.cells, addr_add, hst]

theorem zeroCells_size (z : Array Value) (n : Nat) : (Builtin.zeroCells z n).size = n * z.size := by simp [Builtin.zeroCells]

/-- What an append that grows leaves. -/
theorem grown_size {olds news : List Value} {z : Array Value} {sz n m k : Nat} (h1 : olds.length = n * sz) (h2 : news.length = m * sz) (hz : z.size = sz) (hk : n + m ≤ k) : ((olds ++ news).toArray ++ Builtin.zeroCells z (k - (n + m))).size = k * sz := by
  simp only [Array.size_append, List.size_toArray, List.length_append, h1, h2, zeroCells_size, hz, ← Nat.add_mul]
  congr 1
  omega

theorem append_rs (W : WRel μ w0 ng h w) {t u ty e : TypeId} {i : TypeInfo} {z : AV} {d : TypeDesc} (ht : P.underlying t = some (.slice e)) (hu : P.underlying u = some d) (hi : P.info? e = some i) (hz : i.zero.bind (ofVal big) = some z)
    (hz1 : z.cells.length = i.size) (hz2 : 0 < i.size) (hd : srcOk d i.size = true) {x y v : AV} {h' : H}
    (hv : append h e i.size i.bytes x y = some (.val v h')) {x' y' : Value} (hx : VRel μ x x') (hy : VRel μ y y') (hk : ∀ s, y = .str s → d = .string) (hk' : (∀ s, y ≠ .str s) → d ≠ .string) :
    Rs P μ w0 ng h w (Builtin.append_ #[t, u] ty #[x', y']) v h' := by
  obtain ⟨zv, hz3, hz4⟩ := Option.bind_eq_some_iff.1 hz
  have hzs : zv.cells.size = i.size := by have := (cells_rel ((ofVal_rel μ big).1 _ _ hz4)).length; rw [← hz1]; simpa using this.symm
  unfold append at hv
  split at hv
  · simp at hv
  · rename_i m new hsrc
    have hlen : ∀ (a : List AV) (b : List Value), VRels μ a b → a.length = b.length := fun _ _ h => h.length
    split at hv
    · -- nil
      cases hx
      split at hv
      · rename_i hm
        have hm : m = 0 := by simpa using hm
        subst hm
        simp only [Option.some.injEq, Ans.val.injEq] at hv
        obtain ⟨rfl, rfl⟩ := hv
        by_cases hone : new.all AV.one = true
        · obtain ⟨news, hs, _⟩ := src_rel W hsrc hone hu hd hk hk' hy
          exact Pl.rs W ⟨_, run_append_none ht hi hs (Nat.le_refl _), rfl⟩
        · -- nothing is appended: no cell at all
          exfalso
          cases y <;> simp only [srcCells, reduceCtorEq] at hsrc
          · simp only [Option.some.injEq, Prod.mk.injEq, List.length_eq_zero_iff] at hsrc; obtain ⟨rfl, rfl⟩ := hsrc; simp [bytesAV] at hone
          · simp only [Option.some.injEq, Prod.mk.injEq] at hsrc; obtain ⟨_, rfl⟩ := hsrc; simp at hone
          · obtain ⟨r, h1, h2⟩ := Option.map_eq_some_iff.1 hsrc
            simp only [Prod.mk.injEq] at h2
            obtain ⟨rfl, rfl⟩ := h2
            simp only [Nat.zero_mul, H.ldn, cut] at h1
            split at h1
            · simp at h1; subst h1; simp at hone
            · simp at h1
      · rename_i hm
        split at hv
        · rename_i hc
          simp only [Bool.and_eq_true, decide_eq_true_eq] at hc
          obtain ⟨⟨hb, h63⟩, hone⟩ := hc
          simp only [Option.some.injEq, Ans.val.injEq] at hv
          obtain ⟨rfl, rfl⟩ := hv
          obtain ⟨news, hs, hrel⟩ := src_rel W hsrc hone hu hd hk hk' hy
          have hm : 0 < m := Nat.pos_of_ne_zero (by simpa using hm)
          have hml : m ≤ maxLen := by unfold maxLen; omega
          have hr := run_append_grow_src (P := P) w t u ty e i zv ht hi hz3 none 0 0 [] (by simp [Builtin.firstCells]) y' m news hs (by omega) (by omega)
            (growslice_fits_wide (by omega) (by simpa using fits_ok hb))
          have hg1 := grownCap_ge w (0 + m) 0 e
          have hg2 := grownCap_le_maxLen w (0 + m) 0 e (by omega)
          rw [Nat.zero_add] at hr hg1 hg2
          obtain ⟨k, hk⟩ : ∃ k, k = grownCap w m 0 e := ⟨_, rfl⟩
          rw [← hk] at hr hg1 hg2
          have hsz := grown_size (olds := []) (news := news) (z := zv.cells) (sz := i.size) (n := 0) (m := m) (k := k) (by simp) hs.newsLen hzs (by omega)
          rw [Nat.zero_add] at hsz
          have hW := W.new w.drew rfl rfl rfl rfl (.cells 0 e new 0 false) (.cells (([] ++ news).toArray ++ Builtin.zeroCells zv.cells (k - m)) e) (k * i.size) rfl rfl
            ⟨_, 0, 0, rfl, hsz, ⟨news, (Builtin.zeroCells zv.cells (k - m)).toList, by simp, hrel⟩, Nat.le_refl _, fun i _ h2 => absurd h2 (by omega)⟩
          exact ⟨_, _, _, hr, ⟨_, 0, k, Mu.put_at _ _ _ _, rfl, hg1, hg2, .inl ⟨rfl, by simp⟩⟩, hW⟩
        · simp at hv
    · -- a slice
      rename_i a n c
      split at hv
      · rename_i hm
        have hm : m = 0 := by simpa using hm
        subst hm
        simp only [Option.some.injEq, Ans.val.injEq] at hv
        obtain ⟨rfl, rfl⟩ := hv
        have hone : new.all AV.one = true := by
          cases y <;> simp only [srcCells, reduceCtorEq] at hsrc
          · simp only [Option.some.injEq, Prod.mk.injEq, List.length_eq_zero_iff] at hsrc; obtain ⟨rfl, rfl⟩ := hsrc; simp [bytesAV]
          · simp only [Option.some.injEq, Prod.mk.injEq] at hsrc; obtain ⟨_, rfl⟩ := hsrc; simp
          · obtain ⟨r, h1, h2⟩ := Option.map_eq_some_iff.1 hsrc
            simp only [Prod.mk.injEq] at h2
            obtain ⟨rfl, rfl⟩ := h2
            simp only [Nat.zero_mul, H.ldn, cut] at h1
            split at h1
            · simp at h1; subst h1; simp
            · simp at h1
        obtain ⟨news, hs, _⟩ := src_rel W hsrc hone hu hd hk hk' hy
        have hx0 := hx
        cases c with
        | ex c =>
          rcases hx with ⟨rb, _, rfl, hle⟩ | ⟨rfl, rfl, ad, rfl⟩
          · exact Pl.rs W ⟨_, run_append_none ht hi hs hle, hx0⟩
          · exact Pl.rs W ⟨_, run_append_none ht hi hs (Nat.le_refl _), hx0⟩
        | op e' => obtain ⟨rb, o, c, _, rfl, hle, _⟩ := hx; exact Pl.rs W ⟨_, run_append_none ht hi hs hle, hx0⟩
      · rename_i hm
        have hm : 0 < m := Nat.pos_of_ne_zero (by simpa using hm)
        split at hv
        · simp at hv
        · rename_i hc
          simp only [Bool.not_eq_true, Bool.not_eq_false', Bool.and_eq_true, decide_eq_true_eq] at hc
          obtain ⟨⟨hb, h63⟩, hone⟩ := hc
          obtain ⟨news, hs, hrel⟩ := src_rel W hsrc hone hu hd hk hk' hy
          have hml : n + m ≤ maxLen := by unfold maxLen; omega
          have hfit : ∀ k, k < n + m → Builtin.nextslicecap (n + m) k * i.bytes ≤ 281474976710656 := fun k hk => growslice_fits_wide hk (fits_ok hb)
          split at hv
          · -- a known capacity that is too small: a new row
            rename_i k
            split at hv
            · rename_i hkl
              split at hv
              · rename_i old hold
                simp only [Option.some.injEq, Ans.val.injEq] at hv
                obtain ⟨rfl, rfl⟩ := hv
                have hgrow : ∃ (base : Option Addr) (vs : List Value), x' = .slice base n k ∧ (Builtin.firstCells i.size n (.slice base n k)).run P w.drew = .ok vs.toArray w.drew ∧ vs.length = n * i.size ∧ VRels μ old vs := by
                  rcases hx with ⟨rb, hmm, rfl, hle⟩ | ⟨rfl, rfl, ad, rfl⟩
                  · obtain ⟨vs, h1, h2, h3⟩ := (W.drew (w' := w.drew) rfl rfl rfl rfl).ldn P hold hmm
                    exact ⟨_, vs, rfl, by simpa [Builtin.firstCells] using h1, h2, h3⟩
                  · have ho : old = [] := by
                      simp only [Nat.zero_mul, H.ldn] at hold
                      split at hold
                      · exact List.eq_nil_of_length_eq_zero (cut_pre (m := 0) hold)
                      · simp at hold
                    subst ho
                    exact ⟨some ad, [], rfl, by simp [Builtin.firstCells, loadCells, loadCellsFrom], by simp, VRels.nil⟩
                obtain ⟨base, vs, rfl, h1, h2, h3⟩ := hgrow
                have hr := run_append_grow_src (P := P) w t u ty e i zv ht hi hz3 base n k vs h1 y' m news hs hkl (by omega) (hfit k hkl)
                have hg1 := grownCap_ge w (n + m) k e
                have hg2 := grownCap_le_maxLen w (n + m) k e hml
                obtain ⟨q, hq⟩ : ∃ q, q = grownCap w (n + m) k e := ⟨_, rfl⟩
                rw [← hq] at hr hg1 hg2
                have hsz := grown_size (z := zv.cells) (k := q) h2 hs.newsLen hzs hg1
                have hW := W.new w.drew rfl rfl rfl rfl (.cells 0 e (old ++ new) 0 false) (.cells ((vs ++ news).toArray ++ Builtin.zeroCells zv.cells (q - (n + m))) e) (q * i.size) rfl rfl
                  ⟨_, 0, 0, rfl, hsz, ⟨vs ++ news, (Builtin.zeroCells zv.cells (q - (n + m))).toList, by simp, h3.append hrel⟩, Nat.le_refl _, fun i _ h2 => absurd h2 (by omega)⟩
                exact ⟨_, _, _, hr, ⟨_, 0, q, Mu.put_at _ _ _ _, rfl, hg1, hg2, .inl ⟨rfl, by simp⟩⟩, hW⟩
              · simp at hv
            · simp at hv
          · -- an open one
            rename_i sz'
            split at hv
            · rename_i g e' c' fz ro hg
              split at hv
              · rename_i hcc
                simp only [Bool.and_eq_true, Bool.not_eq_true', decide_eq_true_eq, beq_iff_eq] at hcc
                obtain ⟨⟨⟨⟨⟨⟨rfl, hao⟩, hcl⟩, rfl⟩, rfl⟩, hro⟩, hfz⟩ := hcc
                simp only [Option.some.injEq, Ans.val.injEq] at hv
                obtain ⟨rfl, rfl⟩ := hv
                obtain ⟨rb, o, k, hmm, rfl, hle, hkm, hdis⟩ := hx
                have ho : o = 0 := by rcases hdis with ⟨e1, _⟩ | ⟨_, e1⟩ <;> omega
                subst ho
                obtain ⟨⟨ob, h1, h2⟩, h3⟩ := (W.blk _ _ rb hg hmm).imp (fun x => x.own hro) id
                obtain ⟨row, lo, hi', rfl, hsz, hpre, hlh, hfr⟩ := h2
                have hdom : ∀ g' rb1, μ a.b g' = some rb1 → g' ≤ a.g := by
                  intro g' rb1 e1
                  obtain ⟨_, _, B, h5, h6⟩ := W.dom _ _ _ e1
                  rw [hg] at h5; cases h5; exact h6
                have hno : ∀ rb1, μ a.b (a.g + 1) = some rb1 → False := fun rb1 e1 => by have := hdom _ _ e1; omega
                have hle2 : μ.le (μ.put a.b (a.g + 1) rb) := by
                  intro b g' rb1 e1
                  unfold Mu.put
                  split
                  · rename_i hk; obtain ⟨rfl, rfl⟩ := hk; exact (hno _ e1).elim
                  · exact e1
                have hlt := W.dom _ _ _ hmm
                by_cases hroom : n + m ≤ k
                · have hrbn : k * i.size = rb.n := by rcases hdis with ⟨_, e1⟩ | ⟨e1, _⟩ <;> omega
                  have hfits : n * i.size + news.length ≤ row.size := by rw [hs.newsLen, ← Nat.add_mul, hsz, ← hrbn]; exact Nat.mul_le_mul_right _ hroom
                  obtain ⟨w', r1, r2, r3⟩ := run_storeCells_fz P rb.r (n * i.size) e' lo hi' news 0 row w h1 (by omega) (fun j _ hj hh => by rcases hfr _ hh.1 hh.2 with h | h <;> omega) hs.one
                  have hr := run_append_room' (ty := ty) ht hi hs hroom r1
                  have hB : ORel (μ.put a.b (a.g + 1) rb) rb.n (.cells (a.g + 1) e' (c' ++ new) fz ro) (.cells (row.toList.take (n * i.size + 0) ++ news ++ row.toList.drop (n * i.size + 0 + news.length)).toArray e' (lo, hi')) := by
                    refine ⟨_, lo, hi', rfl, ?_, ?_, hlh, hfr⟩
                    · simp only [List.size_toArray, List.length_append, List.length_take, List.length_drop, Array.length_toList]; omega
                    · have := (hpre.mono hle2).append (VRels.mono hle2 _ _ hrel)
                      rw [hcl] at this
                      simpa using this
                  have hW := W.upd a.b (.cells (a.g + 1) e' (c' ++ new) fz ro) rb _ (h.get_set a.b _) (fun q hq => h.get_set_ne a.b q _ hq) (Nat.le_refl _) hlt.2.1 r2 (by rw [r3]; exact hlt.1) hro
                    (.inr ⟨_, rb, hg, hmm, hro, rfl⟩) (fun g' rb1 e1 => Nat.le_succ_of_le (hdom g' rb1 e1)) (fun rb1 e1 => (hno _ e1).elim) hB
                  exact ⟨_, w', _, hr, ⟨rb, 0, k, Mu.put_at _ _ _ _, rfl, hroom, hkm, .inl ⟨rfl, by show 0 + k * i.size = rb.n; omega⟩⟩, hW⟩
                · have hkl : k < n + m := by omega
                  have hcut : cut c' 0 (n * i.size) = some c' := by
                    simp only [cut, List.drop_zero, ← hcl, List.take_length, BEq.rfl, if_true]
                  obtain ⟨vs, h5, h6, h7⟩ := hpre.cut hcut
                  have hl := run_loadCells_list' (w := w.drew) P ⟨rb.r, 0, none⟩ vs 0 #[] (fun j v hj => by rw [addr_add]; exact cell_at (w := w.drew) h1 (by simpa using h7 j v hj))
                  rw [h5] at hl
                  have hr := run_append_grow_src (P := P) w t u ty e' i zv ht hi hz3 (some ⟨rb.r, 0, none⟩) n k vs (by simpa [Builtin.firstCells, loadCells] using hl) y' m news hs hkl (by omega) (hfit k hkl)
                  have hg1 := grownCap_ge w (n + m) k e'
                  have hg2 := grownCap_le_maxLen w (n + m) k e' hml
                  obtain ⟨q, hq⟩ : ∃ q, q = grownCap w (n + m) k e' := ⟨_, rfl⟩
                  rw [← hq] at hr hg1 hg2
                  have hsz2 := grown_size (z := zv.cells) (k := q) h5 hs.newsLen hzs hg1
                  have hle3 : μ.le (μ.put a.b (a.g + 1) ⟨w.heap.size, q * i.size⟩) := by
                    intro b g' rb1 e1
                    unfold Mu.put
                    split
                    · rename_i hk; obtain ⟨rfl, rfl⟩ := hk; exact (hno _ e1).elim
                    · exact e1
                  have hB : ORel (μ.put a.b (a.g + 1) ⟨w.heap.size, q * i.size⟩) (q * i.size) (.cells (a.g + 1) e' (c' ++ new) fz ro) (.cells ((vs ++ news).toArray ++ Builtin.zeroCells zv.cells (q - (n + m))) e') :=
                    ⟨_, 0, 0, rfl, hsz2, ⟨vs ++ news, (Builtin.zeroCells zv.cells (q - (n + m))).toList, by simp, (VRels.mono hle3 _ _ h6).append (VRels.mono hle3 _ _ hrel)⟩, Nat.le_refl _, fun i _ h2 => absurd h2 (by omega)⟩
                  have hch : Chg w (w.drew.alloc (.cells ((vs ++ news).toArray ++ Builtin.zeroCells zv.cells (q - (n + m))) e')) w.heap.size (.cells ((vs ++ news).toArray ++ Builtin.zeroCells zv.cells (q - (n + m))) e') :=
                    (Chg.alloc w.drew _).drew w rfl rfl rfl rfl
                  have hW := W.upd a.b (.cells (a.g + 1) e' (c' ++ new) fz ro) ⟨w.heap.size, q * i.size⟩ _ (h.get_set a.b _) (fun q hq => h.get_set_ne a.b q _ hq) (Nat.le_refl _) hlt.2.1 hch (by simp) hro
                    (.inl ⟨rfl, .inr ⟨_, rb, hg, hmm, hro⟩⟩) (fun g' rb1 e1 => Nat.le_succ_of_le (hdom g' rb1 e1)) (fun rb1 e1 => (hno _ e1).elim) hB
                  exact ⟨_, _, _, hr, ⟨_, 0, q, Mu.put_at _ _ _ _, rfl, hg1, hg2, .inl ⟨rfl, by simp⟩⟩, hW⟩
              · simp at hv
            · simp at hv
    · simp at hv

end
end Go.Det
