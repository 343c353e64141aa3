/- The law WireReads, from its head. -/
import Derived.Test.YthahfhdibhgboaaReads
set_option linter.unusedVariables false
set_option linter.unusedSimpArgs false
set_option linter.unusedSectionVars false
namespace Go.Det
open Go.Proofs
attribute [local irreducible] Wp Wo Wd iop ev slots quiets wanted put

theorem iop_lenS {x : IX} {ρ : IX → AV} {h : H} {v : AV} {n : Nat} (hx : ρ x = v) (hv : (v = .nils ∧ n = 0) ∨ ∃ a c, v = .sl a n c) : iop (.len false x) ρ h = some (.val (.int .i64 n) h) := by
  rcases hv with ⟨rfl, rfl⟩ | ⟨a, c, rfl⟩ <;> simp [iop, hx]

set_option maxHeartbeats 1000000 in
theorem reads_run {h : H} {xb xl : AV} {lb : List UInt8} {acts : List (Int × Int)} (hb : Bs h xb lb) (hl : lb.length ≤ maxRow) (hk : KSl (KPair (KInt .i64) (KInt .i64)) 2 h acts [xl]) (hmx : acts.length < 2 ^ 62) :
    ∃ r h', Runs TF 4 [xb, xl] h r h' ∧ r = .bool true := by
  have hel := hk.elem (by
    rintro x c ⟨y, z, rfl, h1, h2⟩
    cases h1; cases h2; rfl)
  obtain ⟨ab, cc, hxl, hact⟩ : ∃ (ab : AA) (cc : Cp), ((xl = .nils ∧ acts = []) ∨ xl = .sl ab acts.length cc) ∧ ((acts = [] ∨ ab.b < h.n) ∧ ∀ (j : Nat) (x : Int × Int), acts[j]? = some x → h.ldn ⟨ab.b, ab.g, ab.o + j * 2⟩ 2 = some [.int .i64 x.1, .int .i64 x.2]) := by
    rcases hel with ⟨rfl, rfl⟩ | ⟨a, c, rfl, _, h2, h3⟩
    · exact ⟨⟨0, 0, 0⟩, .ex 0, .inl ⟨rfl, rfl⟩, .inl rfl, fun j x hj => by simp at hj⟩
    · refine ⟨a, .ex c, .inr rfl, .inr h2, fun j x hj => ?_⟩
      obtain ⟨c', ⟨y, z, rfl, q1, q2⟩, q3⟩ := h3 j x hj
      cases q1; cases q2
      exact q3
  obtain ⟨ow, H1, ea, oa, X1⟩ := copy_new hb hl
  obtain ⟨p, H2, c1, rb, u, rfl, hrb, R2, X2, ou, hu⟩ := new_run oa.bs hl
  obtain ⟨H3, sb, w, c2, hsb, S3, X3, hw⟩ := rrnew_run ((hb.ext X1).ext X2) hl
  have R3 := R2.ext X3
  have n1 := X1.1
  have n2 := X2.1
  have n3 := X3.1
  have hrb2 := R2.1
  have hlen : (xl = .nils ∧ acts.length = 0) ∨ ∃ a c, xl = .sl a acts.length c := by
    rcases hxl with ⟨e, e2⟩ | e
    · exact .inl ⟨e, by rw [e2]; rfl⟩
    · exact .inr ⟨_, _, e⟩
  obtain ⟨bo, go, hbo, hso⟩ := oa.spoil (X2.trans X3) H3.n
  refine Runs.ofP f4 rfl ?_
  refine Wp.seq ?_
  refine Wp.region ?_
  refine Wo.pre 8 (by kernel_rfl) ?_
  refine Wo.nil ?_
  refine Wp.seq ?_
  refine Wp.region ?_
  refine Wo.val (.sl ⟨h.n, 0, 0⟩ 0 (.ex 0)) (h.new (.cells 0 5 [] 0 false)) (by kernel_rfl) (((by kernel_rfl))) ?_
  refine Wo.pre 1 (by kernel_rfl) ?_
  refine Wo.val ow H1 (by kernel_rfl) (iop_app (v := .sl ⟨h.n, 0, 0⟩ 0 (.ex 0)) (w := xb) (by kernel_rfl) (by kernel_rfl) hb.parts.2.2 ea) ?_
  refine Wo.pre 8 (by kernel_rfl) ?_
  refine Wo.nil ?_
  refine Wp.seq ?_
  refine Wp.region ?_
  refine Wo.pre 1 (by kernel_rfl) ?_
  refine Wo.call (by kernel_rfl) (by kernel_rfl) (c1) ?_
  refine Wo.pre 1 (by kernel_rfl) ?_
  refine Wo.call (by kernel_rfl) (by kernel_rfl) (c2) ?_
  refine Wo.pre 8 (by kernel_rfl) ?_
  refine Wo.nil ?_
  refine Wp.seq ?_
  refine Wp.seq ?_
  refine Wp.region ?_
  refine Wo.pre 1 (by kernel_rfl) ?_
  refine Wo.val (.int .i64 lb.length) H3 (by kernel_rfl) ((((oa.ext X2).ext X3).bs.len (by kernel_rfl))) ?_
  refine Wo.pre 8 (by kernel_rfl) ?_
  refine Wo.nil ?_
  refine Wp.block ?_
  refine spoil4_3 hl lb.length 0 (by omega) H3 _ ow (by kernel_rfl) (by kernel_rfl) (by kernel_rfl) (by kernel_rfl) hso _ ?_
  intro ts1 K1 g0 g1 g2 g3 g4
  clear hso g4
  rw [laid_of g0 8 (fun j hj => g1 j (by omega) (by omega)) [(0, xb), (1, xl), (5, ow), (6, .ptr ⟨rb, 0, 0⟩), (7, .ptr ⟨sb, 0, 0⟩)] (by kernel_rfl) (by kernel_rfl)]
  have kp : ∀ b, b < H3.n → (H1.n ≤ b ∨ b < h.n) → K1.get b = H3.get b := fun b hb hn => g3 b (by omega)
  have R4 : Rd K1 rb u lb := R3.keep (by omega) (kp rb (by omega) (by omega)) (fun a n c e => kp _ (by have := hu a n c e; omega) (by have := hu a n c e; omega))
  have S4 : RRd K1 sb w lb := S3.keep (by omega) (kp sb S3.1 (by omega)) (fun a n c e => kp _ (by have := hw a n c e; have := S3.1; omega) (by have := hw a n c e; omega))
  have hT : Two h.n rb sb acts ab K1 lb := by
    refine ⟨⟨u, w, R4, S4, fun a n c e => (hu a n c e).2, fun a n c e => ⟨by have := hw a n c e; omega, (hw a n c e).2⟩⟩, by omega, by omega, hl, fun j x hj => ?_, fun hne => hact.1.resolve_left hne⟩
    have hne : acts ≠ [] := by intro e; rw [e] at hj; simp at hj
    have hab := hact.1.resolve_left hne
    have e1 : K1.get (AA.b ⟨ab.b, ab.g, ab.o + j * 2⟩) = h.get (AA.b ⟨ab.b, ab.g, ab.o + j * 2⟩) := by
      show K1.get ab.b = h.get ab.b
      rw [kp ab.b (by omega) (.inr hab), X3.2 _ (by omega), X2.2 _ (by omega), X1.2 _ hab]
    rw [ldn_same e1]
    exact hact.2 j x hj
  refine Wp.seq ?_
  refine Wp.seq ?_
  refine Wp.region ?_
  refine Wo.pre 1 (by kernel_rfl) ?_
  refine Wo.val (.int .i64 acts.length) K1 (by kernel_rfl) (iop_lenS (v := xl) (by kernel_rfl) hlen) ?_
  refine Wo.pre 8 (by kernel_rfl) ?_
  refine Wo.nil ?_
  refine Wp.block ?_
  refine reads_loop (cc := cc) hmx acts.length 0 (by omega) K1 lb _ xl (fun hne => ?_) hT ⟨(by kernel_rfl), (by kernel_rfl), (by kernel_rfl), (by kernel_rfl), (by kernel_rfl), (by kernel_rfl)⟩ _ ?_
  · rcases hxl with ⟨_, e⟩ | e
    · exact absurd e hne
    · exact e
  intro ts2 K2 d0
  rw [laid_eq d0 [] (by simp)]
  refine Wp.seq ?_
  refine Wp.region ?_
  refine Wo.call (by kernel_rfl) (by kernel_rfl) (awake24_run K2) ?_
  refine Wo.pre 8 (by kernel_rfl) ?_
  refine Wo.nil ?_
  exact Wp.ret ⟨.inr rfl, .bool true, (by kernel_rfl), rfl⟩
end Go.Det
