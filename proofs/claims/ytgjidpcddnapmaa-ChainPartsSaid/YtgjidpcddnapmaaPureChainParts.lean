/- ChainParts: for every configuration, chain and certificate, Check tells of parts of the chain, of a root alone, and of one certificate more ahead or behind, what the stage's theorem says. Its part over numbers and lists. -/
import Derived.Test.YtgjidpcddnapmaaStChainParts
import Derived.Test.YtgjidpcddnapmaaChainPlain
namespace Go.Proofs.Ytgjidpcddnapmaa.Pure
open Go.RowKit Go.Proofs.Ytgjidpcddnapmaa.P Go.Proofs.YtgjidpcddnapmaaW.PrintWords Go.Proofs.YtgjidpcddnapmaaW.PrintLast Go.Proofs.YtgjidpcddnapmaaW.PrintMore Go.Proofs.Ytgjidpcddnapmaa.Mine

theorem mayC_parts {key : List Int} {roots : List (List Int)} {b p g : Int} (h : mayC key roots b p g = true) : okCerts roots = true ∧ 1 ≤ roots.length := by
  unfold mayC okLen at h
  simp only [Bool.and_eq_true, decide_eq_true_eq] at h
  exact ⟨h.2.2.1.2, h.2.2.1.1.1⟩
theorem okCerts_at {l : List (List Int)} (h : okCerts l = true) {x : List Int} (hx : x ∈ l) : okCert x = true := List.all_eq_true.1 h x hx
theorem getD_mem {l : List (List Int)} {i : Nat} (hi : i < l.length) : rd_L1 l i ∈ l := by
  simp [rd_L1, List.getElem?_eq_getElem hi]
theorem any_self {roots : List (List Int)} {x : List Int} (h : x ∈ roots) : (roots.any fun y => eqB y x) = true := List.any_eq_true.2 ⟨x, h, eqB_refl x⟩

theorem ChainParts : escritoirelaw22_ChainParts.Pure := by
  intro key roots b p g l cert hk hr hb hp hg hl hc
  have hrl : roots.length < 9223372036854775807 := by have := hr.1; omega
  have hll : l.length < 9223372036854775807 := by have := hl.1; omega
  have chk : ∀ l' : List (List Int), l'.length < 9223372036854775807 → Ev (fun k => chain_Check.f k key roots b p g l') (checkC (mayC key roots b p g) roots l') := fun l' h => check_is key roots b p g hrl l' h
  refine Ev.rounds ?_
  unfold escritoirelaw22_ChainParts.f
  refine Ev.bind (chk l hll) ?_
  cases hm : mayC key roots b p g with
  | false =>
    have e1 : checkC false roots l = 1 := rfl
    rw [e1]
    refine ev_pos rfl (Ev.bind (may_loop key roots b p g hrl) ?_)
    rw [hm]
    exact ev_neg (by simp) (Ev.bind wakes_is (Ev.now _))
  | true =>
    rw [hm] at chk
    obtain ⟨hce, h1⟩ := mayC_parts hm
    have hne : checkC true roots l ≠ 1 := by unfold checkC; simp only [if_true]; split <;> (try split) <;> decide
    refine ev_neg hne (Ev.bind (may_loop key roots b p g hrl) ?_)
    rw [hm]
    refine ev_pos rfl ?_
    -- behind the roots
    have tail : Ev (fun k => escritoirelaw22_ChainParts.l1 k l cert (checkC true roots l) (roots.any fun x => eqB x cert) ((0 : Nat) : Int) key roots b p g) true ∨ checkC true roots l = 30 := by
      cases ho : (okLen l 4 && okCerts l) with
      | false => exact .inr (by unfold checkC; simp [ho])
      | true =>
        refine .inl ?_
        obtain ⟨hlen, hcs⟩ := (Bool.and_eq_true _ _).mp ho
        have hlen2 : 1 ≤ l.length ∧ l.length ≤ 4 := by unfold okLen at hlen; simpa using hlen
        refine down (fun k i => escritoirelaw22_ChainParts.l1 k l cert (checkC true roots l) (roots.any fun x => eqB x cert) (i : Int) key roots b p g) (fun _ => true) l.length ?_ ?_
        · -- one more ahead, behind
          have hbad : (¬ l.length + 1 ≤ 4 ∨ okCert cert = false) → ∀ b', Ev (fun k => escritoirelaw22_ChainParts.j2 k l (checkC true roots l) b' ([cert] ++ l) (l ++ [cert]) true key roots b p g) true := by
            intro hh b'
            have e1 : checkC true roots ([cert] ++ l) = 30 := by
              unfold checkC okLen okCerts
              rcases hh with hh | hh
              · simp [show ¬ l.length + 1 ≤ 4 from hh]
              · simp [hh]
            have e2 : checkC true roots (l ++ [cert]) = 30 := by
              unfold checkC okLen okCerts
              rcases hh with hh | hh
              · simp [show ¬ l.length + 1 ≤ 4 from hh]
              · simp [hh]
            refine Ev.step (f := fun k => _) (fun k => by simp only [escritoirelaw22_ChainParts.j2]; rw [if_pos (by trivial)]) ?_
            refine Ev.bind (chk _ (by simp; omega)) (ev_pos e1 (Ev.bind (chk _ (by simp; omega)) (ev_pos e2 (Ev.bind wakes_is (Ev.now _)))))
          have hgood : l.length + 1 ≤ 4 → okCert cert = true → Ev (fun k => escritoirelaw22_ChainParts.j2 k l (checkC true roots l) (roots.any fun x => eqB x cert) ([cert] ++ l) (l ++ [cert]) false key roots b p g) true := by
            intro h4 hok
            have e1 : checkC true roots ([cert] ++ l) = checkC true roots l := by
              unfold checkC okLen
              have e3 : okCerts ([cert] ++ l) = true := by unfold okCerts at hcs ⊢; simp only [List.cons_append, List.nil_append, List.all_cons, hok, hcs, Bool.true_and]
              have e4 : ([cert] ++ l).getD (([cert] ++ l).length - 1) [] = l.getD (l.length - 1) [] := by
                simp only [List.cons_append, List.nil_append, List.length_cons, Nat.add_sub_cancel]
                rw [show l.length = (l.length - 1) + 1 by omega]
                simp
              rw [e3, e4, hcs]
              simp only [List.cons_append, List.nil_append, List.length_cons]
              simp [h4, hlen2.1, hlen2.2]
            have e2 : checkC true roots (l ++ [cert]) = if (roots.any fun x => eqB x cert) = true then 0 else 31 := by
              unfold checkC okLen
              have e3 : okCerts (l ++ [cert]) = true := by unfold okCerts at hcs ⊢; simp only [List.all_append, List.all_cons, List.all_nil, hok, hcs, Bool.and_self]
              have e4 : (l ++ [cert]).getD ((l ++ [cert]).length - 1) [] = cert := by simp
              rw [e3, e4]
              simp only [List.length_append, List.length_cons, List.length_nil, Nat.zero_add]
              simp [h4]
            refine Ev.step (f := fun k => _) (fun k => by simp only [escritoirelaw22_ChainParts.j2]; rw [if_neg (by simp), if_pos (by omega)]) ?_
            refine Ev.bind (chk _ (by simp; omega)) (ev_pos e1 (Ev.bind (chk _ (by simp; omega)) ?_))
            rw [e2]
            refine ev_pos (by cases (roots.any fun x => eqB x cert) <;> simp) (Ev.bind wakes_is (Ev.now _))
          refine Ev.step (f := fun k => _) (fun k => by rw [escritoirelaw22_ChainParts.l1]) ?_
          refine ev_neg (by omega) (Ev.bind (Ev.now _) (ev_pos (by simp; omega) (Ev.bind (Ev.now _) (ev_pos (by simp; omega) (Ev.bind (Ev.now _) (ev_pos (by simp; omega) (Ev.bind (Ev.now _) ?_)))))))
          simp only [List.nil_append]
          by_cases c1 : l.length = 4
          · refine ev_pos (by omega) (hbad (.inl (by omega)) _)
          · refine ev_neg (by omega) ?_
            by_cases c2 : (cert.length : Int) < 1
            · exact ev_pos c2 (hbad (.inr (by unfold okCert; simp; omega)) _)
            · refine ev_neg c2 ?_
              by_cases c3 : (cert.length : Int) > 512
              · rw [show decide ((cert.length : Int) > 512) = true by simpa using c3]
                exact hbad (.inr (by unfold okCert; simp; omega)) _
              · rw [show decide ((cert.length : Int) > 512) = false by simpa using c3]
                exact hgood (by omega) (by unfold okCert; simp; omega)
        · intro i hi h
          have e1 : checkC true roots (l.drop i) = checkC true roots l := by
            unfold checkC okLen
            have e3 : okCerts (l.drop i) = true := List.all_eq_true.2 (fun x hx => okCerts_at hcs (List.mem_of_mem_drop hx))
            have e4 : (l.drop i).getD ((l.drop i).length - 1) [] = l.getD (l.length - 1) [] := by
              simp only [List.length_drop, List.getD_eq_getElem?_getD, List.getElem?_drop]
              rw [show i + (l.length - i - 1) = l.length - 1 by omega]
            rw [e3, e4, hcs]
            simp [show 1 ≤ l.length - i by omega, show l.length - i ≤ 4 by omega, hlen2.1, hlen2.2]
          refine Ev.step (f := fun k => _) (fun k => by
            simp only [escritoirelaw22_ChainParts.l1]
            rw [if_pos (by omega), if_pos (by omega), if_pos (by omega)]) ?_
          refine Ev.bind (chk _ (by simp; omega)) (ev_pos e1 ?_)
          rw [wrap_succ (by omega)]
          exact h
    refine down (fun k i => escritoirelaw22_ChainParts.l0 k l cert (checkC true roots l) ((roots.take i).any fun x => eqB x cert) (i : Int) key roots b p g) (fun _ => true) roots.length ?_ ?_
    · refine Ev.step (f := fun k => _) (fun k => by simp only [escritoirelaw22_ChainParts.l0]; rw [if_neg (by omega), List.take_length]) ?_
      rcases tail with ht | ht
      · by_cases h30 : checkC true roots l = 30
        · exact ev_pos h30 (Ev.bind wakes_is (Ev.now _))
        · exact ev_neg h30 ht
      · exact ev_pos ht (Ev.bind wakes_is (Ev.now _))
    · intro i hi h
      have hmem := getD_mem hi
      have hone : (roots.take (i + 1)).drop i = [rd_L1 roots i] := by
        rw [take_succ_getD roots [] i hi, List.drop_append_of_le_length (by simp; omega)]
        simp [rd_L1]
      have e1 : checkC true roots [rd_L1 roots i] = 0 := by
        unfold checkC okLen okCerts
        have ho := okCerts_at hce hmem
        have ha := any_self hmem
        simp [ho]
        simpa [List.any_eq_true] using ha
      refine Ev.step (f := fun k => _) (fun k => by rw [escritoirelaw22_ChainParts.l0]) ?_
      rw [wrap_succ (by omega)]
      refine ev_pos (by omega) (ev_pos (by omega) (ev_pos (by omega) (ev_pos (by omega) ?_)))
      rw [show (roots.take (((i + 1 : Nat) : Int)).toNat).drop (i : Int).toNat = [rd_L1 roots i] from hone]
      refine Ev.bind (chk _ (by simp)) (ev_pos e1 ?_)
      have e2 : ((roots.take (i + 1)).any fun x => eqB x cert) = (((roots.take i).any fun x => eqB x cert) || eqB (rd_L1 roots i) cert) := by
        rw [take_succ_getD roots [] i hi, List.any_append]
        simp [rd_L1]
      rw [e2] at h
      cases hx : ((roots.take i).any fun x => eqB x cert) with
      | true => rw [hx] at h; exact ev_pos rfl h
      | false => rw [hx] at h; exact ev_neg (by simp) h

end Go.Proofs.Ytgjidpcddnapmaa.Pure
