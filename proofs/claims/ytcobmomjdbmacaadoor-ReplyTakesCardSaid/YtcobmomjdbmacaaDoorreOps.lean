/- Operations of the machine, as rules for the walks of reply. -/
import Derived.Test.YtcobmomjdbmacaaDoorreIR
import Derived.Test.YtcobmomjdbmacaaDoorrePl
import Derived.Test.YtcobmomjdbmacaaDoorDetFr
import Derived.Test.YtcobmomjdbmacaaDoorDetDw
import Derived.Test.YtcobmomjdbmacaaDoorDetWalk
set_option linter.unusedVariables false
set_option linter.unusedSimpArgs false
set_option linter.unusedSectionVars false
namespace Go.Det
open Go.Proofs
attribute [local irreducible] Wp Wo Wd ev slots quiets wanted put

theorem iop_appG {x y : IX} {ρ : IX → AV} {h h' : H} {v w z : AV} {e sz by_ : Nat} (hx : ρ x = v) (hy : ρ y = w) (hs : isStrV w = false) (ha : append h e sz by_ v w = some (.val z h')) : iop (.app e sz by_ false x y) ρ h = some (.val z h') := by
  simp only [iop, hx, hy, hs, BEq.rfl, if_true, ha]
theorem iop_cvIfit {k kk : IntKind} {x : IX} {ρ : IX → AV} {h : H} {a : Int} (hx : ρ x = .int kk a) (h1 : k.min ≤ a) (h2 : a ≤ k.max) : iop (.cvI k x) ρ h = some (.val (.int k a) h) := by
  simp only [iop, hx, asI, Option.map_some, fit_kind k _ h1 h2]
theorem iop_lenS {x : IX} {ρ : IX → AV} {h : H} {v : AV} {n : Nat} (hx : ρ x = v) (hv : (v = .nils ∧ n = 0) ∨ ∃ a c, v = .sl a n c) : iop (.len false x) ρ h = some (.val (.int .i64 n) h) := by
  rcases hv with ⟨rfl, rfl⟩ | ⟨a, c, rfl⟩ <;> simp [iop, hx]
theorem Runs.ofK {F : FTab} {f : FuncId} {args : List AV} {h h' : H} {v : AV} {n : Nat} (hr : (machK F n).call f args h = some (v, h')) : Runs F f args h v h' := ⟨n, (machK_sim F n).1 _ _ _ _ hr⟩
theorem u8_eqN {a b : UInt8} (h : (a.toNat : Int) = (b.toNat : Int)) : a = b := UInt8.toNat_inj.1 (by omega)
theorem u8_neN {a b : UInt8} (h : ¬ (a.toNat : Int) = (b.toNat : Int)) : a ≠ b := fun e => h (by rw [e])
theorem iop_addS {x y : IX} {ρ : IX → AV} {h : H} {a b : List UInt8} (hx : ρ x = .str a) (hy : ρ y = .str b) (hl : a.length + b.length ≤ 9223372036854775807) : iop (.bin .add x y) ρ h = some (.val (.str (a ++ b)) h) := by
  simp [iop, binop, binStr, hx, hy, hl]
theorem iop_neS {x y : IX} {ρ : IX → AV} {h : H} {a b : List UInt8} (c : Bool) (hx : ρ x = .str a) (hy : ρ y = .str b) (e : (!(a == b)) = c) : iop (.bin .neq x y) ρ h = some (.val (.bool c) h) := by
  simp [iop, binop, binStr, hx, hy, ← e]
theorem iop_eqS {x y : IX} {ρ : IX → AV} {h : H} {a b : List UInt8} (c : Bool) (hx : ρ x = .str a) (hy : ρ y = .str b) (e : (a == b) = c) : iop (.bin .eql x y) ρ h = some (.val (.bool c) h) := by
  simp [iop, binop, binStr, hx, hy, ← e]
theorem iop_ixS {x y : IX} {ρ : IX → AV} {h : H} {s : List UInt8} {i : Nat} {c : UInt8} (hx : ρ x = .str s) (hy : ρ y = .int .i64 i) (hc : s[i]? = some c) : iop (.ixS x y) ρ h = some (.val (.int .u8 c.toNat) h) := by
  have hg : getL s i = some c := by rw [getL_eq]; exact hc
  simp [iop, hx, hy, asI, hg]
def numAV (l : List Nat) : List AV := l.map fun n => .int .i64 ((n : Nat) : Int)
def OwN (e lo : Nat) (h : H) (v : AV) (l : List Nat) : Prop := (v = .nils ∧ l = []) ∨ ∃ b g, lo ≤ b ∧ b < h.n ∧ h.get b = some (.cells g e (numAV l) 0 false) ∧ v = .sl ⟨b, g, 0⟩ l.length (.op 1)
theorem OwN.nil0 {e lo : Nat} {h : H} : OwN e lo h .nils [] := .inl ⟨rfl, rfl⟩
theorem OwN.parts {e lo : Nat} {h : H} {v : AV} {l : List Nat} (ho : OwN e lo h v l) : v.cells = [v] ∧ v.one = true ∧ isStrV v = false := by
  rcases ho with ⟨rfl, _⟩ | ⟨_, _, _, _, _, rfl⟩ <;> exact ⟨rfl, rfl, rfl⟩
theorem OwN.bd {e lo : Nat} {h : H} {v : AV} {l : List Nat} (ho : OwN e lo h v l) : (Go.Det.blk v = 0 ∨ lo < Go.Det.blk v) ∧ Go.Det.blk v ≤ h.n := by
  rcases ho with ⟨rfl, _⟩ | ⟨b, g, h1, h2, h3, rfl⟩
  · exact ⟨.inl rfl, Nat.zero_le _⟩
  · exact ⟨.inr (Nat.succ_le_succ h1), h2⟩
theorem OwN.bq {e lo : Nat} {h : H} {v : AV} {l : List Nat} (ho : OwN e lo h v l) : Dj (Go.Det.blk v = 0 ∨ lo < Go.Det.blk v) ∧ Go.Det.blk v ≤ h.n := ho.bd
theorem OwN.fr {e lo : Nat} {h h' : H} {v : AV} {l : List Nat} (ho : OwN e lo h v l) {S : Nat → Prop} (x : Fr S h h') (hs : Go.Det.blk v = 0 ∨ ¬ S (Go.Det.blk v)) : OwN e lo h' v l := by
  have := x.1
  rcases ho with ⟨rfl, rfl⟩ | ⟨b, g, h1, h2, h3, rfl⟩
  · exact .inl ⟨rfl, rfl⟩
  · exact .inr ⟨b, g, h1, by omega, by rw [x.2 b h2 (hs.resolve_left (by simp [blk_sl]))]; exact h3, rfl⟩
theorem OwN.len {e lo : Nat} {h : H} {v : AV} {l : List Nat} (ho : OwN e lo h v l) : (v = .nils ∧ l.length = 0) ∨ ∃ a c, v = .sl a l.length c := by
  rcases ho with ⟨rfl, rfl⟩ | ⟨b, g, _, _, _, rfl⟩
  · exact .inl ⟨rfl, rfl⟩
  · exact .inr ⟨_, _, rfl⟩
theorem app3_num {lo : Nat} {h : H} {b a : Nat} {v : AV} {l : List Nat} (p : Pt h b (.cells 0 3 [.int .i64 ((a : Nat) : Int)] 0 false)) (ho : OwN 3 lo h v l) (hlo : lo ≤ h.n) (hl : l.length ≤ 10000000000) :
    ∃ v' h', append h 3 1 8 v (.sl ⟨b, 0, 0⟩ 1 (.ex 1)) = some (.val v' h') ∧ OwN 3 lo h' v' (l ++ [a]) ∧ Fr (fun s => s = blk v) h h' := by
  have hmx : 200000000000000 = maxRow := rfl
  have hld : srcCells h 1 (.sl ⟨b, 0, 0⟩ 1 (.ex 1)) = some (1, [.int .i64 ((a : Nat) : Int)]) := by
    simp only [srcCells, H.ldn, H.row, p.2]
    simp [cut]
  have hf : ∀ n, n ≤ 10000000001 → fits n 8 = true := by
    intro n hn
    simp only [fits, Bool.and_eq_true, decide_eq_true_eq]
    omega
  unfold append
  simp only [hld]
  rcases ho with ⟨rfl, rfl⟩ | ⟨b', g, q1, q2, q3, rfl⟩
  · refine ⟨.sl ⟨h.n, 0, 0⟩ 1 (.op 1), h.new (.cells 0 3 [.int .i64 ((a : Nat) : Int)] 0 false), ?_, .inr ⟨h.n, 0, hlo, by simp, h.get_new _, rfl⟩, ⟨by simp, fun k hk _ => h.get_new_ne k _ (by omega)⟩⟩
    simp [hf 1 (by omega), AV.one]
  · refine ⟨.sl ⟨b', g + 1, 0⟩ (l ++ [a]).length (.op 1), h.set b' (.cells (g + 1) 3 (numAV (l ++ [a])) 0 false), ?_, .inr ⟨b', g + 1, q1, by simpa using q2, h.get_set _ _, rfl⟩, ⟨Nat.le_refl _, fun k hk hs => h.get_set_ne _ k _ (fun e => hs (by rw [e]; rfl))⟩⟩
    have hle : l.length + 1 ≤ 9223372036854775807 := by omega
    have e1 : (numAV l).length = l.length := by simp [numAV]
    have e2 : numAV (l ++ [a]) = numAV l ++ [.int .i64 ((a : Nat) : Int)] := by simp [numAV]
    simp [hf (l.length + 1) (by omega), AV.one, q3, e1, e2, hle]
theorem iop_ldE {h : H} {b g e j c : Nat} {x : IX} {ρ : IX → AV} {l : List Nat} (p : Pt h b (.cells g e (numAV l) 0 false)) (hx : ρ x = .ptr ⟨b, g, 0 + j * 1⟩) (hc : l[j]? = some c) : iop (.ld none x) ρ h = some (.val (.int .i64 ((c : Nat) : Int)) h) := by
  refine iop_ldP p hx rfl ?_
  have : getL (numAV l) j = some (.int .i64 ((c : Nat) : Int)) := by
    rw [getL_eq]
    simp [numAV, hc]
  simp [ldB, this]
theorem iop_addN {x y : IX} {ρ : IX → AV} {h : H} {a b : Nat} (hx : ρ x = .int .i64 a) (hy : ρ y = .int .i64 b) (ha : a + b < 9223372036854775808) : iop (.bin .add x y) ρ h = some (.val (.int .i64 ((a + b : Nat) : Int)) h) := by
  refine iop_arith hx hy (by simp) ?_
  rw [bin_add .i64 (by rw [min_i64]; omega) (by rw [max_i64]; omega), Int.natCast_add]
theorem iop_subN {x y : IX} {ρ : IX → AV} {h : H} {a b c : Nat} (hx : ρ x = .int .i64 a) (hy : ρ y = .int .i64 b) (hc : a = c + b) (ha : a < 9223372036854775808) : iop (.bin .sub x y) ρ h = some (.val (.int .i64 ((c : Nat) : Int)) h) := by
  refine iop_arith hx hy (by simp) ?_
  rw [bin_sub .i64 (by rw [min_i64]; omega) (by rw [max_i64]; omega)]
  congr 2
  omega
theorem iop_mulN {x y : IX} {ρ : IX → AV} {h : H} {a b : Nat} (hx : ρ x = .int .i64 a) (hy : ρ y = .int .i64 b) (ha : a * b < 9223372036854775808) : iop (.bin .mul x y) ρ h = some (.val (.int .i64 ((a * b : Nat) : Int)) h) := by
  refine iop_arith hx hy (by simp) ?_
  simp only [binInt]
  rw [← Int.natCast_mul, fit_kind .i64 _ (by rw [min_i64]; omega) (by rw [max_i64]; omega)]
theorem iop_ixSN {x y : IX} {ρ : IX → AV} {h : H} {s : List UInt8} {i : Nat} {ie : Int} {c : UInt8} (hx : ρ x = .str s) (hy : ρ y = .int .i64 ie) (hi : ie = i) (hc : s[i]? = some c) : iop (.ixS x y) ρ h = some (.val (.int .u8 c.toNat) h) := by
  subst hi
  exact iop_ixS hx hy hc
theorem Wo.lit1 {o : IOper} {x : IX} {l : List IOper} {ts : List AV} {h : H} {Q : List AV → H → Prop} (c : UInt8) (ho : o.op = .bsl 5 [.int .u8 0] 1 [(0, 1, x)]) (hg : wanted o.guard ts = true) (hx : ev ts x = .int .u8 c.toNat)
    (hQ : ∀ H', Fr No h H' → Ow h.n H' (.sl ⟨h.n, 0, 0⟩ 1 (.ex 1)) [c] → Wo TF l (put ts o.dst (.sl ⟨h.n, 0, 0⟩ 1 (.ex 1))) H' Q) : Wo TF (o :: l) ts h Q := by
  have hi : iop o.op (ev ts) h = some (.val (.sl ⟨h.n, 0, 0⟩ 1 (.ex 1)) (h.new (.cells 0 5 (bytesAV [c]) 0 false))) := by
    rw [ho]
    simp [iop, fillL, hx, AV.cells, putAt, AV.one, bytesAV]
  exact Wo.val _ _ hg hi (hQ _ (Ext.new h _).fr (.inr ⟨h.n, 0, Nat.le_refl _, by simp, h.get_new _, .inr rfl⟩))
theorem iop_cv8N {x : IX} {ρ : IX → AV} {h : H} {i : Nat} (hx : ρ x = .int .i64 i) (hi : i < 256) : iop (.cvI .u8 x) ρ h = some (.val (.int .u8 ((UInt8.ofNat i).toNat : Int)) h) := by
  simp only [iop, hx, asI, Option.map_some]
  congr 3
theorem Pt.ow0 {h : H} {b : Nat} (p : Pt h b (.cells 0 5 [] 0 false)) : Ow b h (.sl ⟨b, 0, 0⟩ 0 (.ex 0)) [] := .inr ⟨b, 0, Nat.le_refl _, p.1, p.2, .inr rfl⟩
theorem app5_lit {h : H} {b : Nat} {y : AV} {l : List UInt8} (p : Pt h b (.cells 0 5 [] 0 false)) (hy : Bs h y l) (hl : l.length ≤ maxRow) :
    ∃ v h', append h 5 1 1 (.sl ⟨b, 0, 0⟩ 0 (.ex 0)) y = some (.val v h') ∧ Ow b h' v l ∧ Fr No h h' ∧ Dj (Go.Det.blk v = b + 1 ∨ h.n < Go.Det.blk v) := by
  have hmr : maxRow ≤ 9223372036854775807 := by unfold maxRow; omega
  have hp := p.1
  unfold append
  rw [hy.src]
  simp only []
  by_cases hm : l = []
  · subst hm
    exact ⟨.sl ⟨b, 0, 0⟩ 0 (.ex 0), h, by simp, p.ow0, Fr.refl _, .inl rfl⟩
  · have hm0 : l.length ≠ 0 := by simpa using hm
    have hm1 : 0 < 0 + l.length := by omega
    have hld : h.ldn ⟨b, 0, 0⟩ (0 * 1) = some [] := by
      unfold H.ldn H.row
      simp only [p.2, BEq.rfl, Bool.not_false, Bool.true_or, Bool.and_self, if_true]
      rfl
    rw [if_neg (by simpa using hm0), if_neg (by simp [bytes_one]; omega), if_pos hm1, hld]
    exact ⟨_, _, rfl, .inr ⟨h.n, 0, by omega, by simp, by rw [h.get_new]; rfl, .inl (by simp)⟩, (Ext.new h _).fr, .inr (by simp [blk_sl])⟩
/-- A string's bytes, in a row of their own. -/
theorem Wo.cvSB {o : IOper} {x : IX} {l : List IOper} {ts : List AV} {h : H} {Q : List AV → H → Prop} (s : List UInt8) (ho : o.op = .cvSB 5 x) (hg : wanted o.guard ts = true) (hx : ev ts x = .str s) (hl : s.length ≤ 200000000000000)
    (hQ : ∀ H', Fr No h H' → Ow h.n H' (.sl ⟨h.n, 0, 0⟩ s.length (.op 1)) s → Wo TF l (put ts o.dst (.sl ⟨h.n, 0, 0⟩ s.length (.op 1))) H' Q) : Wo TF (o :: l) ts h Q := by
  have hm : maxRow = 200000000000000 := rfl
  have hi : iop o.op (ev ts) h = some (.val (.sl ⟨h.n, 0, 0⟩ s.length (.op 1)) (h.new (.cells 0 5 (bytesAV s) 0 false))) := by
    rw [ho]
    simp [iop, hx, hm, hl]
  exact Wo.val _ _ hg hi (hQ _ (Ext.new h _).fr (.inr ⟨h.n, 0, Nat.le_refl _, by simp, h.get_new _, .inl rfl⟩))
/-- What is read at a place. -/
def AtN (h : H) (b g o : Nat) (v : AV) : Prop := b < h.n ∧ h.ldg ⟨b, g, o⟩ none = some v
theorem AtN.fr {h h' : H} {b g o : Nat} {v : AV} (p : AtN h b g o v) {S : Nat → Prop} (x : Fr S h h') (hs : ¬ S (b + 1)) : AtN h' b g o v := by
  refine ⟨Nat.lt_of_lt_of_le p.1 x.1, ?_⟩
  have e := x.2 b p.1 hs
  have h2 := p.2
  simp only [H.ldg, H.ld, H.row] at h2 ⊢
  rw [e]
  exact h2
theorem AtN.of {h : H} {b : Nat} {l : List Nat} (p : Pt h b (.cells 0 3 (numAV l) 0 false)) {j n : Nat} (hj : l[j]? = some n) : AtN h b 0 (0 + j * 1) (.int .i64 ((n : Nat) : Int)) := by
  refine ⟨p.1, ?_⟩
  refine p.ld (ag := none) rfl ?_
  have : getL (numAV l) j = some (.int .i64 ((n : Nat) : Int)) := by
    rw [getL_eq]
    simp [numAV, hj]
  simp [ldB, this]
end Go.Det
