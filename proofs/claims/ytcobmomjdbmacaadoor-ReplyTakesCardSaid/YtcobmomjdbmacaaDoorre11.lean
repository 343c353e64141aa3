/- Reply: Take, whole: the walks. -/
import Derived.Test.YtcobmomjdbmacaaDoorre10
set_option linter.unusedVariables false
set_option linter.unusedSimpArgs false
set_option linter.unusedSectionVars false
namespace Go.Det
open Go.Proofs
attribute [local irreducible] Wp Wo Wd iop ev slots quiets wanted put

theorem val_lt : ∀ (d : List UInt8), (∀ c ∈ d, Re.isDig c = true) → Re.val d < 10 ^ d.length := by
  have key : ∀ (d : List UInt8) (acc m : Nat), (∀ c ∈ d, Re.isDig c = true) → acc < 10 ^ m → d.foldl (fun n c => 10 * n + (c.toNat - 48)) acc < 10 ^ (m + d.length) := by
    intro d
    induction d with
    | nil => intro acc m _ h; exact h
    | cons c d ih =>
      intro acc m hd h
      have hc := isDig_iff.1 (hd c (by simp))
      rw [List.foldl_cons, List.length_cons, show m + (d.length + 1) = (m + 1) + d.length by omega]
      refine ih _ (m + 1) (fun x hx => hd x (List.mem_cons_of_mem _ hx)) ?_
      rw [Nat.pow_succ]
      omega
  intro d hd
  have := key d 0 0 hd (by simp)
  rwa [Nat.zero_add] at this
theorem val_lt8 {d : List UInt8} (hd : ∀ c ∈ d, Re.isDig c = true) (h : d.length ≤ 8) : Re.val d < 100000000 :=
  Nat.lt_of_lt_of_le (val_lt d hd) (Nat.le_trans (Nat.pow_le_pow_right (n := 10) (by omega) h) (by decide))
theorem line_big {st : Nat} (h : st ∈ Re.codes) : 1 ≤ (Re.line st).length := by
  rcases Re.code_cases h with rfl | rfl | rfl | rfl | rfl | rfl <;> decide +kernel
theorem begF_none {l : List UInt8} (h : Re.codes.find? (fun st => (Re.line st).isPrefixOf l) = none) : Re.begF l = (0, 0, Re.codes.any fun st => l.isPrefixOf (Re.line st)) := by
  unfold Re.begF
  rw [h]

/-- Behind the digits: every way. -/
theorem tail8_run {h0 h : H} {a : AA} {q : Cp} {l r : List UInt8} {st p2 : Nat} (hst : st ∈ Re.codes) (hlr : l = Re.line st ++ r) (hb : Bs h (.sl a l.length q) l) (cx : Cok (.sl a l.length q)) (hl : l.length ≤ 140737488351232) (P2 : Pt h p2 (.cells 0 24 [.int .i64 0, .nils, .bool false] 0 false)) (hp2 : h0.n ≤ p2) (hE : Ext h0 h)
    {ts : List AV} (t0 : ts.length = 169) (g0 : getL ts 0 = some (.sl a l.length q)) (g2 : getL ts 2 = some (.ptr ⟨p2, 0, 0⟩)) (g5 : getL ts 5 = some (.int .i64 st)) (g6 : getL ts 6 = some (.int .i64 ((Re.line st).length : Nat))) (g8 : getL ts 8 = some (.fn (.func 18) [] [])) (g9 : getL ts 9 = some (.int .i64 (((Re.dgs 8 r).length : Nat) : Int))) :
    Wp TF tail8 (ts, h) (After h0 l (Re.tailP st r)) := by
  obtain ⟨at_, hat⟩ : ∃ at_, at_ = (Re.line st).length := ⟨_, rfl⟩
  obtain ⟨rest, hrd, hsp⟩ := Re.dgs_split 8 r
  have hdig := Re.dgs_all 8 r
  have hk8 := Re.dgs_len 8 r
  have htp : Re.tailP st r = (let d := Re.dgs 8 r
    let rest := r.drop d.length
    if d = [] then (if rest = [] then Re.Res.more else .form)
    else if Re.dec (Re.val d) ≠ d ∨ Re.val d > Re.most then .form
    else
      let c := (Re.closing.take 3).isPrefixOf rest
      if rest.length < (Re.ending c).length then (if rest.isPrefixOf (Re.ending c) then .more else .form)
      else if !(Re.ending c).isPrefixOf rest then .form
      else if rest.length - (Re.ending c).length < Re.val d then .more
      else .ok st (Re.val d) c) := rfl
  obtain ⟨d, hd⟩ : ∃ d, d = Re.dgs 8 r := ⟨_, rfl⟩
  rw [← hd] at hrd hsp hdig hk8 g9 htp
  have hrest : r.drop d.length = rest := by rw [hrd, List.drop_left']; rfl
  have hrest2 : l.drop (at_ + d.length) = rest := by rw [hlr, hat, ← List.drop_drop, List.drop_left', hrest]; rfl
  have hT : (l.take (at_ + d.length)).drop at_ = d := by
    rw [cut_eq (i := at_) (n := d.length) rfl, hlr, hat, List.drop_left']
    · rw [hrd, List.take_left']
      rfl
    · rfl
  have hll : l.length = at_ + d.length + rest.length := by rw [hlr, List.length_append, hrd, List.length_append, hat]; omega
  rw [← hat] at g6
  simp only [hrest] at htp
  by_cases hd0 : d = []
  · rw [if_pos hd0] at htp
    have h0 : (((d.length : Nat)) : Int) = 0 := by rw [hd0]; rfl
    rw [h0] at g9
    have := tail_none (st := st) hb cx hl (by omega : at_ ≤ l.length) P2 hp2 hE t0 g0 g2 g5 g6 g8 g9
    rw [htp]
    by_cases hr0 : rest = []
    · rw [if_pos hr0]
      rw [if_pos (by rw [hll, hd0, hr0]; rfl)] at this
      exact this
    · rw [if_neg hr0]
      rw [if_neg (by rw [hll, hd0]; have : rest.length ≠ 0 := by simpa using hr0
                     simp; omega)] at this
      exact this
  · rw [if_neg hd0] at htp
    have hk : at_ + d.length ≤ l.length := by omega
    by_cases hbad : Re.dec (Re.val d) ≠ d ∨ Re.val d > Re.most
    · rw [if_pos hbad] at htp
      rw [htp]
      exact tail_bad hb cx hl hk P2 hp2 hE hT hdig hd0 hk8 rfl rfl (val_lt8 hdig hk8) hbad t0 g0 g2 g5 g6 g8 g9
    · rw [if_neg hbad] at htp
      rw [not_or, Decidable.not_not] at hbad
      obtain ⟨hcan, hmost⟩ := hbad
      have hn9 : Re.val d ≤ 1048576 := by unfold Re.most at hmost; omega
      have hhead : ∀ c, (Re.head st (Re.val d) c).length = at_ + d.length + (Re.ending c).length := fun c => by
        rw [Re.head_app, List.length_append, List.length_append, hcan, hat]; omega
      cases hcf : (Re.closing.take 3).isPrefixOf rest with
      | true =>
        rw [hcf] at htp
        have hcf' : List.isPrefixOf [13, 10, 67] (l.drop (at_ + d.length)) = true := by rw [hrest2]; exact hcf
        by_cases hs : rest.length < (Re.ending true).length
        · have hs' : (l.drop (at_ + d.length)).length < 23 := by rw [hrest2]; exact hs
          rw [if_pos hs] at htp
          cases hp : rest.isPrefixOf (Re.ending true) with
          | true =>
            rw [hp] at htp
            rw [htp]
            exact tail_short_more_t hb cx hl hk P2 hp2 hE hT hdig hd0 hk8 rfl rfl hn9 hcan hcf' hs' (by rw [hrest2]; exact hp) t0 g0 g2 g5 g6 g8 g9
          | false =>
            rw [hp] at htp
            rw [htp]
            exact tail_short_form_t hb cx hl hk P2 hp2 hE hT hdig hd0 hk8 rfl rfl hn9 hcan hcf' hs' (by rw [hrest2]; exact hp) t0 g0 g2 g5 g6 g8 g9
        · have hs' : ¬ (l.drop (at_ + d.length)).length < 23 := by rw [hrest2]; exact hs
          rw [if_neg hs] at htp
          cases hp : (Re.ending true).isPrefixOf rest with
          | false =>
            rw [hp] at htp
            rw [htp]
            exact tail_long_form_t hb cx hl hk P2 hp2 hE hT hdig hd0 hk8 rfl rfl hn9 hcan hcf' hs' (by rw [hrest2]; exact hp) t0 g0 g2 g5 g6 g8 g9
          | true =>
            rw [hp] at htp
            have h23 : 23 ≤ rest.length := Nat.le_of_not_lt hs
            have hge : at_ + d.length + 23 ≤ l.length := by omega
            have eR : (Re.ending true).length = 23 := rfl
            by_cases hsh : rest.length - (Re.ending true).length < Re.val d
            · have htp2 : Re.tailP st r = .more := by rw [htp]; simp [hsh]
              rw [htp2]
              exact tail_long_more_t hb cx hl hk P2 hp2 hE hT hdig hd0 hk8 rfl rfl hn9 hcan hcf' hs' (by rw [hrest2]; exact hp) hge (by omega) t0 g0 g2 g5 g6 g8 g9
            · have htp2 : Re.tailP st r = .ok st (Re.val d) true := by rw [htp]; simp [hsh]
              rw [htp2]
              exact tail_long_ok_t hb cx hl hk P2 hp2 hE hT hdig hd0 hk8 rfl rfl hn9 hcan hcf' hs' (by rw [hrest2]; exact hp) hge (by omega) (hhead true) t0 g0 g2 g5 g6 g8 g9
      | false =>
        rw [hcf] at htp
        have hcf' : List.isPrefixOf [13, 10, 67] (l.drop (at_ + d.length)) = false := by rw [hrest2]; exact hcf
        by_cases hs : rest.length < (Re.ending false).length
        · have hs' : (l.drop (at_ + d.length)).length < 4 := by rw [hrest2]; exact hs
          rw [if_pos hs] at htp
          cases hp : rest.isPrefixOf (Re.ending false) with
          | true =>
            rw [hp] at htp
            rw [htp]
            exact tail_short_more_f hb cx hl hk P2 hp2 hE hT hdig hd0 hk8 rfl rfl hn9 hcan hcf' hs' (by rw [hrest2]; exact hp) t0 g0 g2 g5 g6 g8 g9
          | false =>
            rw [hp] at htp
            rw [htp]
            exact tail_short_form_f hb cx hl hk P2 hp2 hE hT hdig hd0 hk8 rfl rfl hn9 hcan hcf' hs' (by rw [hrest2]; exact hp) t0 g0 g2 g5 g6 g8 g9
        · have hs' : ¬ (l.drop (at_ + d.length)).length < 4 := by rw [hrest2]; exact hs
          rw [if_neg hs] at htp
          cases hp : (Re.ending false).isPrefixOf rest with
          | false =>
            rw [hp] at htp
            rw [htp]
            exact tail_long_form_f hb cx hl hk P2 hp2 hE hT hdig hd0 hk8 rfl rfl hn9 hcan hcf' hs' (by rw [hrest2]; exact hp) t0 g0 g2 g5 g6 g8 g9
          | true =>
            rw [hp] at htp
            have h4 : 4 ≤ rest.length := Nat.le_of_not_lt hs
            have hge : at_ + d.length + 4 ≤ l.length := by omega
            have eR : (Re.ending false).length = 4 := rfl
            by_cases hsh : rest.length - (Re.ending false).length < Re.val d
            · have htp2 : Re.tailP st r = .more := by rw [htp]; simp [hsh]
              rw [htp2]
              exact tail_long_more_f hb cx hl hk P2 hp2 hE hT hdig hd0 hk8 rfl rfl hn9 hcan hcf' hs' (by rw [hrest2]; exact hp) hge (by omega) t0 g0 g2 g5 g6 g8 g9
            · have htp2 : Re.tailP st r = .ok st (Re.val d) false := by rw [htp]; simp [hsh]
              rw [htp2]
              exact tail_long_ok_f hb cx hl hk P2 hp2 hE hT hdig hd0 hk8 rfl rfl hn9 hcan hcf' hs' (by rw [hrest2]; exact hp) hge (by omega) (hhead false) t0 g0 g2 g5 g6 g8 g9

set_option maxHeartbeats 8000000 in
theorem take_run {h : H} {x : AV} {l : List UInt8} (hx : Bs h x l) (cx : Cok x) (hl : l.length ≤ 140737488351232) : ∃ r h', Runs TF 8 [x] h r h' ∧ Ext h h' ∧ TakeIs h h' l r (Re.takeP l) := by
  refine Runs.ofP f8 rfl ?_
  cases hf : Re.codes.find? (fun st => (Re.line st).isPrefixOf l) with
  | none =>
    obtain ⟨may, hmay⟩ : ∃ may, may = Re.codes.any fun st => l.isPrefixOf (Re.line st) := ⟨_, rfl⟩
    have hbf : Re.begF l = (0, 0, may) := by rw [begF_none hf, hmay]
    have htp : Re.takeP l = if may then .more else .form := by unfold Re.takeP; rw [hf, hmay]
    rw [htp]
    cases may
    · have m1 := hx.bq
      have k2 := hx.parts
      refine Wp.seq ?_
      refine Wp.region ?_
      obtain ⟨H3, e3, P3, X3, n3⟩ := pt_new h 24 [AV.int IntKind.i64 0, AV.nils, AV.bool false] (ones_cons rfl (ones_cons rfl (ones_cons rfl ones_nil)))
      refine Wo.val (.ptr ⟨H.n h, 0, 0⟩) H3 (by kernel_rfl) (e3 (v := AV.agg [AV.int IntKind.i64 0, AV.nils, AV.bool false]) (by kernel_rfl) rfl) ?_
      clear e3
      have m4 := X3.1
      refine Wo.pre 2 (by kernel_rfl) ?_
      refine Wo.nil ?_
      refine Wp.seq ?_
      refine Wp.region ?_
      refine Wo.pre 1 (by kernel_rfl) ?_
      have F5 := (hx.fr X3 (.inr id))
      have c6 := begins_run F5 hl (by first | omega | (simp; omega) | (simp; done) | assumption)
      refine Wo.call (by kernel_rfl) (by kernel_rfl) c6 ?_
      clear c6
      refine Wo.pre 7 (by kernel_rfl) ?_
      refine Wo.nil ?_
      refine Wp.seq ?_
      refine Wp.region ?_
      refine Wo.pre 1 (by kernel_rfl) ?_
      refine Wo.nil ?_
      refine Wp.seq ?_
      refine Wp.seq ?_
      refine Wp.region ?_
      refine Wo.pre 1 (by kernel_rfl) ?_
      refine Wo.pre 1 (by kernel_rfl) ?_
      refine Wo.nil ?_
      refine Wp.cond true (by kernel_rfl) ?_
      refine Wp.seq ?_
      refine Wp.region ?_
      refine Wo.pre 2 (by kernel_rfl) ?_
      obtain ⟨r7, H8, c9, rfl, X11⟩ := more_run (H3) (false)
      have m12 := X11.1
      refine Wo.call (by kernel_rfl) (by kernel_rfl) c9 ?_
      clear c9
      refine Wo.pre 3 (by kernel_rfl) ?_
      have F13 := (P3.fr X11.fr id)
      obtain ⟨H14, e14, P14, X14, n14⟩ := F13.st 0 [AV.int IntKind.i64 0, AV.nils, AV.bool false] (by simp) (ones_cons rfl (ones_cons rfl (ones_cons rfl ones_nil)))
      refine Wo.val .undef H14 (by kernel_rfl) (iop_stP (a := { b := h.n, g := 0, o := 0 }) (v := AV.agg [AV.int IntKind.i64 0, AV.nils, AV.bool false]) (vs := [AV.int IntKind.i64 0, AV.nils, AV.bool false]) (by kernel_rfl) (by kernel_rfl) rfl rfl e14) ?_
      have m15 := X14.1
      replace P14 : Pt H14 h.n (Blk.cells 0 24 [AV.int IntKind.i64 0, AV.nils, AV.bool false] 0 false) := P14
      refine Wo.pre 2 (by kernel_rfl) ?_
      refine Wo.nil ?_
      refine Wp.ret ?_
      refine ⟨.inr rfl, (.tup [AV.agg [AV.int IntKind.i64 0, AV.nils, AV.bool false], AV.int IntKind.i64 0, AV.int IntKind.i64 5]), (ret_many (res_cell (a := { b := h.n, g := 0, o := 0 }) (by kernel_rfl) (P14.ld rfl (by kernel_rfl)) (res_tmp (by kernel_rfl) (res_tmp (by kernel_rfl) res_nil))) rfl), ?_⟩
      dsimp only
      exact ⟨(((X3.trans0 X11.fr).transL X14).ext (by intro s hs; first | omega | (dsimp only at hs; omega) | (simp only [blk_nils, blk_sl] at hs ⊢; omega))), rfl⟩
    · have m1 := hx.bq
      have k2 := hx.parts
      refine Wp.seq ?_
      refine Wp.region ?_
      obtain ⟨H3, e3, P3, X3, n3⟩ := pt_new h 24 [AV.int IntKind.i64 0, AV.nils, AV.bool false] (ones_cons rfl (ones_cons rfl (ones_cons rfl ones_nil)))
      refine Wo.val (.ptr ⟨H.n h, 0, 0⟩) H3 (by kernel_rfl) (e3 (v := AV.agg [AV.int IntKind.i64 0, AV.nils, AV.bool false]) (by kernel_rfl) rfl) ?_
      clear e3
      have m4 := X3.1
      refine Wo.pre 2 (by kernel_rfl) ?_
      refine Wo.nil ?_
      refine Wp.seq ?_
      refine Wp.region ?_
      refine Wo.pre 1 (by kernel_rfl) ?_
      have F5 := (hx.fr X3 (.inr id))
      have c6 := begins_run F5 hl (by first | omega | (simp; omega) | (simp; done) | assumption)
      refine Wo.call (by kernel_rfl) (by kernel_rfl) c6 ?_
      clear c6
      refine Wo.pre 7 (by kernel_rfl) ?_
      refine Wo.nil ?_
      refine Wp.seq ?_
      refine Wp.region ?_
      refine Wo.pre 1 (by kernel_rfl) ?_
      refine Wo.nil ?_
      refine Wp.seq ?_
      refine Wp.seq ?_
      refine Wp.region ?_
      refine Wo.pre 1 (by kernel_rfl) ?_
      refine Wo.pre 1 (by kernel_rfl) ?_
      refine Wo.nil ?_
      refine Wp.cond true (by kernel_rfl) ?_
      refine Wp.seq ?_
      refine Wp.region ?_
      refine Wo.pre 2 (by kernel_rfl) ?_
      obtain ⟨r7, H8, c9, rfl, X11⟩ := more_run (H3) (true)
      have m12 := X11.1
      refine Wo.call (by kernel_rfl) (by kernel_rfl) c9 ?_
      clear c9
      refine Wo.pre 3 (by kernel_rfl) ?_
      have F13 := (P3.fr X11.fr id)
      obtain ⟨H14, e14, P14, X14, n14⟩ := F13.st 0 [AV.int IntKind.i64 0, AV.nils, AV.bool false] (by simp) (ones_cons rfl (ones_cons rfl (ones_cons rfl ones_nil)))
      refine Wo.val .undef H14 (by kernel_rfl) (iop_stP (a := { b := h.n, g := 0, o := 0 }) (v := AV.agg [AV.int IntKind.i64 0, AV.nils, AV.bool false]) (vs := [AV.int IntKind.i64 0, AV.nils, AV.bool false]) (by kernel_rfl) (by kernel_rfl) rfl rfl e14) ?_
      have m15 := X14.1
      replace P14 : Pt H14 h.n (Blk.cells 0 24 [AV.int IntKind.i64 0, AV.nils, AV.bool false] 0 false) := P14
      refine Wo.pre 2 (by kernel_rfl) ?_
      refine Wo.nil ?_
      refine Wp.ret ?_
      refine ⟨.inr rfl, (.tup [AV.agg [AV.int IntKind.i64 0, AV.nils, AV.bool false], AV.int IntKind.i64 0, AV.int IntKind.i64 44]), (ret_many (res_cell (a := { b := h.n, g := 0, o := 0 }) (by kernel_rfl) (P14.ld rfl (by kernel_rfl)) (res_tmp (by kernel_rfl) (res_tmp (by kernel_rfl) res_nil))) rfl), ?_⟩
      dsimp only
      exact ⟨(((X3.trans0 X11.fr).transL X14).ext (by intro s hs; first | omega | (dsimp only at hs; omega) | (simp only [blk_nils, blk_sl] at hs ⊢; omega))), rfl⟩
  | some st =>
    have hst := List.mem_of_find?_eq_some hf
    have hp := List.find?_some hf
    obtain ⟨r, hr⟩ := Re.pre_iff.1 hp
    have hbf : Re.begF l = (st, (Re.line st).length, true) := Re.begF_hit hst hp
    have htp : Re.takeP l = Re.tailP st r := by
      unfold Re.takeP
      rw [hf]
      show Re.tailP st (l.drop (Re.line st).length) = _
      rw [hr, List.drop_left']
      rfl
    rw [htp]
    have hbig := Re.code_big hst
    have hlb := line_big hst
    have hat : (Re.line st).length ≤ l.length := by rw [hr, List.length_append]; omega
    have hdr : l.drop ((Re.line st).length + 0) = r := by rw [Nat.add_zero, hr, List.drop_left']; rfl
    rcases hx with ⟨rfl, rfl⟩ | ⟨a, q, rfl, hbl, hrow⟩
    · have e0 : ([] : List UInt8).length = 0 := rfl
      omega
    · have hx : Bs h (.sl a l.length q) l := .inr ⟨a, q, rfl, hbl, hrow⟩
      obtain ⟨at_, hate⟩ : ∃ at_, at_ = (Re.line st).length := ⟨_, rfl⟩
      rw [← hate] at hbf hat hdr hlb
      have m1 := hx.bq
      have k2 := hx.parts
      refine Wp.seq ?_
      refine Wp.region ?_
      obtain ⟨H3, e3, P3, X3, n3⟩ := pt_new h 24 [AV.int IntKind.i64 0, AV.nils, AV.bool false] (ones_cons rfl (ones_cons rfl (ones_cons rfl ones_nil)))
      refine Wo.val (.ptr ⟨H.n h, 0, 0⟩) H3 (by kernel_rfl) (e3 (v := AV.agg [AV.int IntKind.i64 0, AV.nils, AV.bool false]) (by kernel_rfl) rfl) ?_
      clear e3
      have m4 := X3.1
      refine Wo.pre 2 (by kernel_rfl) ?_
      refine Wo.nil ?_
      refine Wp.seq ?_
      refine Wp.region ?_
      refine Wo.pre 1 (by kernel_rfl) ?_
      have F5 := (hx.fr X3 (.inr id))
      have c6 := begins_run F5 hl (by first | omega | (simp; omega) | (simp; done) | assumption)
      refine Wo.call (by kernel_rfl) (by kernel_rfl) c6 ?_
      clear c6
      refine Wo.pre 7 (by kernel_rfl) ?_
      refine Wo.nil ?_
      refine Wp.seq ?_
      refine Wp.region ?_
      refine Wo.pre 1 (by kernel_rfl) ?_
      refine Wo.nil ?_
      refine Wp.seq ?_
      refine Wp.seq ?_
      refine Wp.region ?_
      refine Wo.pre 1 (by kernel_rfl) ?_
      refine Wo.cmp (op := .eql) (x := IX.t 23) (y := IX.c (AV.int IntKind.i64 0)) (k := IntKind.i64) (a := ↑st) (b := 0) ((↑st : Int) = (0 : Int)) (by kernel_rfl) (by kernel_rfl) (by kernel_rfl) (by kernel_rfl) (by simp) (by kernel_rfl) (fun q7 => ?_) (fun q7 => ?_)
      · (exfalso; omega)
      have m8 := P3.1
      have m9 := F5.bq
      have k10 := F5.parts
      refine Wo.nil ?_
      refine Wp.cond false (by kernel_rfl) ?_
      refine Wp.skip ?_
      refine Wp.seq ?_
      refine Wp.region ?_
      refine Wo.pre 1 (by kernel_rfl) ?_
      refine Wo.nil ?_
      refine Wp.seq ?_
      refine Wp.block ?_
      have hb1 := hx.fr X3 (.inr id)
      refine digs_loop (at_ := at_) (st := st) (p2 := h.n) (may := true) hb1 hl 8 0 rfl r hdr (by omega) _ (by kernel_rfl) (by kernel_rfl) (by kernel_rfl) (by kernel_rfl) (by kernel_rfl) (by kernel_rfl) (by kernel_rfl) _ ?_
      intro ts' u0 u1 u2 u5 u6 u8 u9
      rw [Nat.zero_add] at u9
      rw [hate] at u6
      show Wp TF tail8 _ (After h l (Re.tailP st r))
      exact tail8_run hst hr hb1 cx hl P3 (Nat.le_refl _) ⟨X3.1, fun b hb => X3.2 b hb id⟩ u0 u1 u2 u5 u6 u8 u9
end Go.Det
