/- Entries' laws: rows are spoiled. -/
import Derived.Test.YthahfhdibhgboaaOwn
import Derived.Test.YthahfhdibhgboaaLaysR
set_option linter.unusedVariables false
set_option linter.unusedSimpArgs false
set_option linter.unusedSectionVars false
namespace Go.Det
open Go.Proofs
attribute [local irreducible] Wp Wo Wd iop ev slots quiets wanted put

/-- Rows of bytes from lo on may be other bytes; all else stands. -/
def Spoilt (lo : Nat) (h h' : H) : Prop := h'.n = h.n ∧ ∀ b, (b < lo ∨ ∀ g c, h.get b ≠ some (.cells g 5 c 0 false)) → h'.get b = h.get b

theorem spoil_step {h0 h : H} {lo : Nat} {rs : List (AV × List UInt8)} {p : AV × List UInt8} {l' : List UInt8} (hS : Spoilt lo h0 h) (hr : ∀ p ∈ rs, ∃ l', l'.length = p.2.length ∧ Ow lo h p.1 l') (hl : l'.length = p.2.length) (ho : Ow lo h p.1 l') :
    ∃ blk g, (l'.length = 0 ∨ ((∃ cc, p.1 = .sl ⟨blk, g, 0⟩ l'.length cc) ∧ ∃ r : List UInt8, r.length = l'.length ∧ h.get blk = some (.cells g 5 (bytesAV r) 0 false))) ∧
      ∀ h1 : H, h1.n = h.n → (∀ b, b ≠ blk → h1.get b = h.get b) → (l'.length = 0 ∨ ∃ r : List UInt8, r.length = l'.length ∧ h1.get blk = some (.cells g 5 (bytesAV r) 0 false)) → (l'.length = 0 → h1 = h) → Spoilt lo h0 h1 ∧ ∀ p ∈ rs, ∃ l', l'.length = p.2.length ∧ Ow lo h1 p.1 l' := by
  by_cases hz : l'.length = 0
  · exact ⟨0, 0, .inl hz, fun h1 _ _ _ e => by rw [e hz]; exact ⟨hS, hr⟩⟩
  · rcases ho with ⟨_, rfl⟩ | ⟨b, g, h1, h2, h3, h4⟩
    · exact absurd rfl hz
    refine ⟨b, g, .inr ⟨by rcases h4 with e | e <;> exact ⟨_, e⟩, l', rfl, h3⟩, fun k e1 e2 e3 e4 => ?_⟩
    obtain ⟨r, hr1, hr2⟩ := e3.resolve_left hz
    refine ⟨⟨by rw [e1]; exact hS.1, fun c hc => ?_⟩, fun q hq => ?_⟩
    · by_cases hcb : c = b
      · subst hcb
        rcases hc with hc | hc
        · omega
        · exact absurd (by rw [← hS.2 c (.inr hc)]; exact h3) (hc g (bytesAV l'))
      · rw [e2 c hcb]; exact hS.2 c hc
    · obtain ⟨m, hm, oq⟩ := hr q hq
      rcases oq with h0' | ⟨c, gc, w1, w2, w3, w4⟩
      · exact ⟨m, hm, .inl h0'⟩
      · by_cases hcb : c = b
        · subst hcb
          have e5 := h3.symm.trans w3
          simp only [Option.some.injEq, Blk.cells.injEq, and_true, true_and] at e5
          have e6 : r.length = m.length := by
            have := congrArg List.length e5.2
            simp only [bytes_len] at this
            omega
          refine ⟨r, by omega, .inr ⟨c, gc, w1, by omega, by rw [← e5.1]; exact hr2, ?_⟩⟩
          rw [e6]; exact w4
        · exact ⟨m, hm, .inr ⟨c, gc, w1, by omega, by rw [e2 c hcb]; exact w3, w4⟩⟩

set_option maxHeartbeats 1000000 in
theorem spoil_loop {h0 : H} {lo sbk : Nat} {rs : List (AV × List UInt8)} (hg : h0.get sbk = some (.cells 0 22 (rs.map (·.1)) 0 false)) (hlen : rs.length < 2 ^ 62) (hm : ∀ p ∈ rs, p.2.length ≤ maxRow) :
    ∀ (k i : Nat), i + k = rs.length → ∀ (h : H) (ts : List AV), Spoilt lo h0 h → (∀ p ∈ rs, ∃ l', l'.length = p.2.length ∧ Ow lo h p.1 l') → ts.length = 24 → getL ts 5 = some (.sl ⟨sbk, 0, 0⟩ rs.length (.ex rs.length)) → getL ts 6 = some (.int .i64 rs.length) → getL ts 7 = some (.int .i64 i) →
      ∀ (Q : Ex → St → Prop), (∀ ts' h', ts'.length = 24 → Spoilt lo h0 h' → Q (.exit 0) (ts', h')) → Wp TF (.loop l53_2) (ts, h) Q := by
  intro k
  induction k with
  | zero =>
    intro i hi h ts hS hr t0 t5 t6 t7 Q hQ
    obtain rfl : i = rs.length := by omega
    refine Wp.loop ?_
    rw [laid_eq t0 [(5, .sl ⟨sbk, 0, 0⟩ rs.length (.ex rs.length)), (6, .int .i64 rs.length), (7, .int .i64 rs.length)] (by simp [t5, t6, t7])]
    unfold l53_2
    refine Wp.seq ?_
    refine Wp.region ?_
    refine Wo.val (.bool false) h (by kernel_rfl) (iop_cmp (op := .lss) (k := .i64) (a := rs.length) (b := rs.length) false (by kernel_rfl) (by kernel_rfl) (by simp) (by simp [binInt])) ?_
    refine Wo.nil ?_
    refine Wp.seq ?_
    refine Wp.cond false (by kernel_rfl) ?_
    exact Wp.exit (hQ _ _ (by kernel_rfl) hS)
  | succ k ih =>
    intro i hi h ts hS hr t0 t5 t6 t7 Q hQ
    have hlt : i < rs.length := by omega
    obtain ⟨p, hp⟩ : ∃ p, rs[i]? = some p := ⟨rs[i], List.getElem?_eq_getElem hlt⟩
    obtain ⟨l', hl', ho⟩ := hr p (List.mem_of_getElem? hp)
    have hpm := hm p (List.mem_of_getElem? hp)
    have hgh : h.get sbk = some (.cells 0 22 (rs.map (·.1)) 0 false) := by rw [hS.2 sbk (.inr (fun g c e => by rw [hg] at e; simp at e))]; exact hg
    have hld : h.ldg ⟨sbk, 0, 0 + i * 1⟩ none = some p.1 := by simp [H.ldg, H.ld, H.row, hgh, getL_eq, hp]
    have hmx : maxRow < 2 ^ 62 := by decide
    have wi : IntKind.i64.wrap ((i : Int) + 1) = ((i + 1 : Nat) : Int) := by rw [i64_fit _ (by omega)]; omega
    refine Wp.loop ?_
    rw [laid_eq t0 [(5, .sl ⟨sbk, 0, 0⟩ rs.length (.ex rs.length)), (6, .int .i64 rs.length), (7, .int .i64 i)] (by simp [t5, t6, t7])]
    unfold l53_2
    refine Wp.seq ?_
    refine Wp.region ?_
    refine Wo.val (.bool true) h (by kernel_rfl) (iop_cmp (op := .lss) (k := .i64) (a := i) (b := rs.length) true (by kernel_rfl) (by kernel_rfl) (by simp) (by simp [binInt]; omega)) ?_
    refine Wo.nil ?_
    refine Wp.seq ?_
    refine Wp.cond true (by kernel_rfl) ?_
    refine Wp.skip ?_
    refine Wp.seq ?_
    refine Wp.block ?_
    refine Wp.seq ?_
    refine Wp.region ?_
    refine Wo.val _ h (by kernel_rfl) (iop_ia (a := ⟨sbk, 0, 0⟩) (n := rs.length) (c := .ex rs.length) (i := i) (by kernel_rfl) (by kernel_rfl) hlt) ?_
    refine Wo.val p.1 h (by kernel_rfl) (iop_ld (a := ⟨sbk, 0, 0 + i * 1⟩) (by kernel_rfl) hld) ?_
    refine Wo.pre 1 (by kernel_rfl) ?_
    refine Wo.nil ?_
    refine Wp.seq ?_
    refine Wp.region ?_
    refine Wo.pre 1 (by kernel_rfl) ?_
    refine Wo.val (.int .i64 l'.length) h (by kernel_rfl) ((ho.bs.len (by kernel_rfl))) ?_
    refine Wo.pre 1 (by kernel_rfl) ?_
    refine Wo.nil ?_
    refine Wp.block ?_
    obtain ⟨blk, g, hsx, hst⟩ := spoil_step hS hr hl' ho
    refine spoil53_1 (n := l'.length) (by omega) l'.length 0 (by omega) h _ p.1 (by kernel_rfl) (by kernel_rfl) (by kernel_rfl) (by kernel_rfl) hsx _ ?_
    intro ts1 h1 g0 g1 g2 g3 g4 g5
    obtain ⟨hS1, hr1⟩ := hst h1 g2 g3 g4 g5
    rw [laid_eq g0 [(5, .sl ⟨sbk, 0, 0⟩ rs.length (.ex rs.length)), (6, .int .i64 rs.length), (7, .int .i64 i)] (by intro p hp; simp only [List.mem_cons, List.not_mem_nil, or_false] at hp; rcases hp with rfl | rfl | rfl <;> (rw [g1 _ (by show _ < _; omega) (by show _ ≠ _; omega)]; kernel_rfl))]
    refine Wp.region ?_
    refine Wo.pre 8 (by kernel_rfl) ?_
    refine Wo.nil ?_
    refine ih (i + 1) (by omega) h1 _ hS1 hr1 (by kernel_rfl) (by kernel_rfl) (by kernel_rfl) (by rw [← wi]; kernel_rfl) Q hQ

theorem spoile_run {h : H} {sbk lo : Nat} {rs : List (AV × List UInt8)} (hg : h.get sbk = some (.cells 0 22 (rs.map (·.1)) 0 false)) (hlen : rs.length < 2 ^ 62) (hm : ∀ p ∈ rs, p.2.length ≤ maxRow) (ho : ∀ p ∈ rs, Ow lo h p.1 p.2) :
    ∃ r h', Runs TF 53 [.sl ⟨sbk, 0, 0⟩ rs.length (.ex rs.length)] h r h' ∧ Spoilt lo h h' := by
  refine Runs.ofP f53 rfl ?_
  refine Wp.seq ?_
  refine Wp.region ?_
  refine Wo.pre 1 (by kernel_rfl) ?_
  refine Wo.pre 1 (by kernel_rfl) ?_
  refine Wo.pre 1 (by kernel_rfl) ?_
  refine Wo.nil ?_
  refine Wp.block ?_
  refine spoil_loop hg hlen hm rs.length 0 (by omega) h _ ⟨rfl, fun _ _ => rfl⟩ (fun p hp => ⟨p.2, rfl, ho p hp⟩) (by kernel_rfl) (by kernel_rfl) (by kernel_rfl) (by kernel_rfl) _ ?_
  intro ts' h' t0 hS
  exact ⟨.inl rfl, _, rfl, hS⟩
end Go.Det
