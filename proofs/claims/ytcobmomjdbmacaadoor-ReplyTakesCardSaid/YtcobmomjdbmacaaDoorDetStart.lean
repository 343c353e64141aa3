/- Arguments that lie in memory: each slice's block becomes a block of the machine's that is only read. -/
import Derived.OpenShut
import Derived.Test.YtcobmomjdbmacaaDoorDetLaw
import Derived.Test.YtcobmomjdbmacaaDoorDetWalk
import Derived.ChangeArms
import Derived.ChangeOld
import Derived.SizedLaws
set_option linter.unusedVariables false
set_option linter.unusedSimpArgs false
set_option linter.unusedSectionVars false
namespace Go.Det
open Go.RowKit

/-- The blocks that arguments have become, each with the real one that it is. -/
abbrev Lays := List (Option RB × Blk)
def Lays.mu (L : Lays) : Mu := fun b g => if g = 0 then (L[b]?).bind (·.1) else none
def Lays.heap (L : Lays) : H := L.foldl (fun h x => h.new x.2) H0

theorem foldl_new : ∀ (L : Lays) (h : H), (∀ k, h.n ≤ k → h.get k = none) → (L.foldl (fun h x => h.new x.2) h).n = h.n + L.length ∧
    ∀ k, (L.foldl (fun h x => h.new x.2) h).get k = if k < h.n then h.get k else (L[k - h.n]?).map (·.2)
  | [], h, h0 => ⟨rfl, fun k => by
    simp only [List.foldl_nil]
    split
    · rfl
    · rename_i hk; rw [h0 k (by omega)]; rfl⟩
  | x :: L, h, h0 => by
    obtain ⟨h1, h2⟩ := foldl_new L (h.new x.2) (fun k hk => by
      have hk : h.n + 1 ≤ k := hk
      rw [h.get_new_ne k x.2 (by omega)]
      exact h0 k (by omega))
    refine ⟨by simp only [List.foldl_cons, h1, List.length_cons]; show h.n + 1 + _ = _; omega, fun k => ?_⟩
    simp only [List.foldl_cons, h2]
    show (if k < h.n + 1 then _ else _) = _
    by_cases e : k < h.n
    · rw [if_pos (by omega), if_pos e, h.get_new_ne k x.2 (by omega)]
    · by_cases e2 : k = h.n
      · subst e2
        rw [if_pos (by omega), if_neg e, h.get_new]
        simp
      · rw [if_neg (by omega), if_neg e]
        have : k - h.n = k - (h.n + 1) + 1 := by omega
        rw [this]
        rfl

theorem H0_get (k : Nat) : H0.get k = none := by
  unfold H0 H.get
  cases k <;> simp [Tr.get]

theorem Lays.heap_n (L : Lays) : L.heap.n = L.length := by
  have := (foldl_new L H0 (fun k _ => H0_get k)).1
  unfold Lays.heap
  rw [this]
  show 0 + _ = _
  omega
theorem Lays.heap_get (L : Lays) (k : Nat) : L.heap.get k = (L[k]?).map (·.2) := by
  have := (foldl_new L H0 (fun k _ => H0_get k)).2 k
  unfold Lays.heap
  rw [this]
  show (if k < 0 then _ else _) = _
  rw [if_neg (by omega)]
  rfl
theorem Lays.mu_le (L M : Lays) : L.mu.le (L ++ M).mu := by
  intro b g rb e
  unfold Lays.mu at e ⊢
  split at e
  · rename_i hg
    rw [if_pos hg]
    obtain ⟨x, h1, h2⟩ := Option.bind_eq_some_iff.1 e
    rw [List.getElem?_append_left (List.getElem?_eq_some_iff.1 h1).1, h1]
    exact h2
  · simp at e
theorem Lays.ext (L M : Lays) : Ext L.heap (L ++ M).heap := by
  refine ⟨by rw [Lays.heap_n, Lays.heap_n, List.length_append]; omega, fun b hb => ?_⟩
  rw [Lays.heap_n] at hb
  rw [Lays.heap_get, Lays.heap_get, List.getElem?_append_left hb]

/-- The blocks are what they say. -/
def Lays.Ok (L : Lays) (w : World) : Prop := ∀ (b : Nat) (rb : RB) (B : Blk), L[b]? = some (some rb, B) → BRel L.mu B rb w ∧ B.gen = 0 ∧ B.ro = true

theorem Lays.start {L : Lays} {w : World} (h : L.Ok w) : WRel L.mu w 0 L.heap w := by
  have hm : ∀ b g rb, L.mu b g = some rb → g = 0 ∧ ∃ B, L[b]? = some (some rb, B) := by
    intro b g rb e
    unfold Lays.mu at e
    split at e
    · rename_i hg
      obtain ⟨⟨r, B⟩, h1, h2⟩ := Option.bind_eq_some_iff.1 e
      have h2 : r = some rb := h2
      subst h2
      exact ⟨hg, B, h1⟩
    · simp at e
  have hg : ∀ b B, L.heap.get b = some B → ∃ rb, L[b]? = some (rb, B) := by
    intro b B e
    rw [Lays.heap_get] at e
    obtain ⟨⟨r, B'⟩, h1, rfl⟩ := Option.map_eq_some_iff.1 e
    exact ⟨r, h1⟩
  refine ⟨Below.refl _ _, fun _ x => absurd x (Nat.not_lt_zero _), ?_, ?_, ?_⟩
  · intro b g rb e
    obtain ⟨rfl, B, h1⟩ := hm b g rb e
    obtain ⟨⟨o, h2, _⟩, h3, _⟩ := h b rb B h1
    refine ⟨(Array.getElem?_eq_some_iff.1 h2).1, by rw [Lays.heap_n]; exact (List.getElem?_eq_some_iff.1 h1).1, B, by rw [Lays.heap_get, h1]; rfl, Nat.zero_le _⟩
  · intro b B rb h1 h2
    obtain ⟨rb', h3⟩ := hg b B h1
    obtain ⟨h4, B', h5⟩ := hm b _ rb h2
    rw [h3] at h5
    simp only [Option.some.injEq, Prod.mk.injEq] at h5
    obtain ⟨rfl, rfl⟩ := h5
    obtain ⟨h6, _, h7⟩ := h b rb B h3
    exact ⟨h6, fun h8 => by rw [h7] at h8; cases h8⟩
  · intro b B rb b' B' rb' h1 _ h2 _ h5 _
    obtain ⟨rb', h3⟩ := hg b B h1
    obtain ⟨h4, B', h8⟩ := hm b _ rb h2
    rw [h3] at h8
    simp only [Option.some.injEq, Prod.mk.injEq] at h8
    obtain ⟨rfl, rfl⟩ := h8
    obtain ⟨_, _, h7⟩ := h b rb B h3
    rw [h7] at h5
    cases h5

/-- A law that the machine finds true at arguments that lie in blocks. -/
theorem law_true_at {P : Program} {F : FTab} (hF : FOk P F) (hm : P.follows .mixedOrders = true) (hg : P.globals.size = 0) {f : FuncId} {args : List AV} {args' : Array Value} {W : World} {L : Lays} (hL : L.Ok W) (ha : VRels L.mu args args'.toList) {v : AV} {h' : H} (hr : Runs F f args L.heap v h') (hv : v = .bool true) :
    Calls P f args' W (fun e W' => e = .returned (.bool true) ∧ Below W.heap.size W W') := by
  subst hv
  obtain ⟨n, hr⟩ := hr
  have := (mach_all hF hm W n f args L.heap _ h' hr L.mu W args' ha (Lays.start hL)).2
  refine this.mono ?_
  rintro e W' ⟨v', μ', rfl, rfl, hW, _⟩
  exact ⟨rfl, hW.base⟩

/-- The same, where some functions' contracts are known at this start alone. -/
theorem law_true_as {P : Program} {F : FTab} {W : World} (hF : FOkAt P W F) (hm : P.follows .mixedOrders = true) {f : FuncId} {args : List AV} {args' : Array Value} {L : Lays} (hL : L.Ok W) (ha : VRels L.mu args args'.toList) {v : AV} {h' : H} (hr : Runs F f args L.heap v h') (hv : v = .bool true) :
    Calls P f args' W (fun e W' => e = .returned (.bool true) ∧ Below W.heap.size W W') := by
  subst hv
  obtain ⟨n, hr⟩ := hr
  have := (mach_at hF hm n f args L.heap _ h' hr L.mu W args' ha (Lays.start hL)).2
  refine this.mono ?_
  rintro e W' ⟨v', μ', rfl, rfl, hW, _⟩
  exact ⟨rfl, hW.base⟩

/-- One more block: from its cell o on it is read. -/
theorem Lays.snoc {L : Lays} {w : World} (hL : L.Ok w) {r o : Nat} {c : Array Value} {e : TypeId} {fz : Nat × Nat} (hr : w.heap[r]? = some (.cells c e fz)) {avs : List AV} {vs : List Value} (hv : VRels L.mu avs vs) (hc : ∀ (i : Nat) (v : Value), vs[i]? = some v → c.toList[o + i]? = some v) :
    Lays.Ok (L ++ [(some (⟨r, c.size⟩ : RB), Blk.cells 0 e (List.replicate o (.bool false) ++ avs) o true)]) w := by
  have hle := Lays.mu_le L [(some (⟨r, c.size⟩ : RB), Blk.cells 0 e (List.replicate o (.bool false) ++ avs) o true)]
  intro b rb B hb
  by_cases hlt : b < L.length
  · rw [List.getElem?_append_left hlt] at hb
    obtain ⟨⟨ob, h1, h2⟩, h3⟩ := hL b rb B hb
    exact ⟨⟨ob, h1, h2.imp (·.mono hle) (·.mono hle)⟩, h3⟩
  · rw [List.getElem?_append_right (by omega)] at hb
    have : b - L.length = 0 := by
      cases hk : b - L.length with
      | zero => rfl
      | succ k => rw [hk] at hb; simp at hb
    rw [this] at hb
    simp only [List.getElem?_cons_zero, Option.some.injEq, Prod.mk.injEq] at hb
    obtain ⟨rfl, rfl⟩ := hb
    refine ⟨⟨_, hr, .inr ?_⟩, rfl, rfl⟩
    have hlen := hv.length
    refine ⟨c, fz, List.replicate o (.bool false) ++ (vs ++ c.toList.drop (o + vs.length)), rfl, ?_, ?_⟩
    · rw [← List.append_assoc]
      exact VPre.of ((VRels.replicate (a := .bool false) (v := .bool false) rfl o).append (VRels.mono hle _ _ hv))
    · intro i hi
      rw [List.getElem?_append_right (by simpa using hi), List.length_replicate]
      by_cases h1 : i - o < vs.length
      · rw [List.getElem?_append_left h1]
        have := hc (i - o) _ (List.getElem?_eq_getElem h1)
        rw [show o + (i - o) = i by omega] at this
        rw [this, List.getElem?_eq_getElem h1]
      · rw [List.getElem?_append_right (by omega), List.getElem?_drop]
        congr 1
        omega

/-- One more block that is none: a slice without a cell. -/
theorem Lays.hole {L : Lays} {w : World} (hL : L.Ok w) : Lays.Ok (L ++ [((none : Option RB), Blk.cells 0 0 [] 0 true)]) w := by
  have hle := Lays.mu_le L [((none : Option RB), Blk.cells 0 0 [] 0 true)]
  intro b rb B hb
  by_cases hlt : b < L.length
  · rw [List.getElem?_append_left hlt] at hb
    obtain ⟨⟨ob, h1, h2⟩, h3⟩ := hL b rb B hb
    exact ⟨⟨ob, h1, h2.imp (·.mono hle) (·.mono hle)⟩, h3⟩
  · rw [List.getElem?_append_right (by omega)] at hb
    cases hk : b - L.length with
    | zero => rw [hk] at hb; simp at hb
    | succ k => rw [hk] at hb; simp at hb

/-! ### Data that is told, opened -/

structure Opn (P : Program) (t : TypeId) {α : Type} (K : H → α → List AV → Prop) (wf : α → Prop) (sz : Nat) : Prop where
  cells : P.cellsOf t = sz
  ext : ∀ {h h' : H} {a : α} {cs : List AV}, Ext h h' → K h a cs → K h' a cs
  len : ∀ {h : H} {a : α} {cs : List AV}, K h a cs → cs.length = sz
  op : ∀ {D : Type} {enc : TypeId × Value → D} {w : World} {base : Nat} {held : Bool} {fuel : Nat} {cs : List Value} {x : DataW D × List MemPlace},
    DataW.trod enc P w base (fun _ => true) held fuel t cs = some x → ∀ L : Lays, L.Ok w →
      ∃ (M : Lays) (avs : List AV) (a : α), (L ++ M).Ok w ∧ VRels (L ++ M).mu avs cs ∧ K (L ++ M).heap a avs ∧ ((∀ n ∈ x.1.weights P t, n ≤ reachBytes) → wf a)

def KInt (k : IntKind) (_ : H) (n : Int) (cs : List AV) : Prop := cs = [.int k n]
theorem Opn.int {P : Program} {t : TypeId} {k : IntKind} (ht : P.underlying t = some (.int k)) (hc : P.cellsOf t = 1) : Opn P t (KInt k) (fun n => k.min ≤ n ∧ n ≤ k.max) 1 :=
  ⟨hc, fun _ h => h, fun h => by cases h; rfl, fun h L hL => by
    obtain ⟨n, rfl, rfl, hw⟩ := DataW.trod_int ht h
    refine ⟨[], [.int k n], n, by simpa using hL, ⟨_, _, rfl, rfl, rfl⟩, rfl, fun _ => ?_⟩
    simpa [Lit.wf] using hw⟩
def KBool (_ : H) (b : Bool) (cs : List AV) : Prop := cs = [.bool b]
theorem Opn.bool {P : Program} {t : TypeId} (ht : P.underlying t = some .bool) (hc : P.cellsOf t = 1) : Opn P t KBool (fun _ => True) 1 :=
  ⟨hc, fun _ h => h, fun h => by cases h; rfl, fun h L hL => by
    obtain ⟨n, rfl, rfl⟩ := DataW.trod_bool ht h
    exact ⟨[], [.bool n], n, by simpa using hL, ⟨_, _, rfl, rfl, rfl⟩, rfl, fun _ => trivial⟩⟩
def KStr (_ : H) (s : List UInt8) (cs : List AV) : Prop := cs = [.str s]
theorem Opn.string {P : Program} {t : TypeId} (ht : P.underlying t = some .string) (hc : P.cellsOf t = 1) : Opn P t KStr (fun s => s.length ≤ reachBytes) 1 :=
  ⟨hc, fun _ h => h, fun h => by cases h; rfl, fun h L hL => by
    obtain ⟨s, rfl, rfl, hs⟩ := DataW.trod_string ht h
    refine ⟨[], [.str s.data.toList], s.data.toList, by simpa using hL, ⟨_, _, rfl, ?_, rfl⟩, rfl, fun hw => ?_⟩
    · show Value.string s = .string ⟨s.data.toList.toArray⟩
      simp
    · exact hw _ (by simp [DataW.weights])⟩

/-- A slice's elements, each laid out. -/
def KSl {α : Type} (K : H → α → List AV → Prop) (sz : Nat) (h : H) (xs : List α) (cs : List AV) : Prop :=
  ∃ v, cs = [v] ∧ ((v = .nils ∧ xs = []) ∨ ∃ a c, v = .sl a xs.length (.ex c) ∧ xs.length ≤ c ∧ a.b < h.n ∧ ∃ cc : List (List AV), h.ldn a (xs.length * sz) = some cc.flatten ∧ cc.length = xs.length ∧ ∀ (j : Nat) (x : α), xs[j]? = some x → ∃ c, cc[j]? = some c ∧ K h x c)
def WSl {α : Type} (B : Nat) (wf : α → Prop) (xs : List α) : Prop := xs.length * B ≤ reachBytes ∧ ∀ x ∈ xs, wf x

theorem flat_len {α : Type} {cc : List (List α)} {sz : Nat} (h : ∀ c ∈ cc, c.length = sz) : cc.flatten.length = cc.length * sz := by
  induction cc with
  | nil => simp
  | cons c cc ih => simp only [List.flatten_cons, List.length_append, List.length_cons, Nat.succ_mul, h c (by simp), ih (fun c hc => h c (by simp [hc]))]; omega

theorem weightsAll_mem {D : Type} {P : Program} {e : TypeId} : ∀ {ds : List (DataW D)} {d : DataW D}, d ∈ ds → ∀ n ∈ d.weights P e, n ∈ DataW.weightsAll P e ds
  | d0 :: ds, d, hd, n, hn => by
    simp only [DataW.weightsAll, List.mem_append]
    rcases List.mem_cons.1 hd with rfl | hd
    · exact .inl hn
    · exact .inr (weightsAll_mem hd n hn)

theorem addr_add_add (a : Addr) (i j : Nat) : (a.add i).add j = a.add (i + j) := by
  unfold Addr.add
  by_cases hi : i = 0 <;> by_cases hj : j = 0 <;> simp_all [Nat.add_assoc]

/-- A row of elements, opened one behind the other. -/
theorem Opn.all {P : Program} {t : TypeId} {α : Type} {K : H → α → List AV → Prop} {wf : α → Prop} {sz : Nat} (O : Opn P t K wf sz) {D : Type} {enc : TypeId × Value → D} {w : World} {base : Nat} {held : Bool} {fuel : Nat} {a : Addr} :
    ∀ (ys : List (DataW D × List MemPlace)) (from_ : Nat) (L : Lays), L.Ok w → (∀ i, i < ys.length → (w.cells? base (a.add ((from_ + i) * sz)) sz).bind (DataW.trod enc P w base (fun _ => true) held fuel t) = ys[i]?) →
      ∃ (M : Lays) (cc : List (List AV)) (xs : List α) (vs : List Value), (L ++ M).Ok w ∧ xs.length = ys.length ∧ cc.length = ys.length ∧ vs.length = ys.length * sz ∧ VRels (L ++ M).mu cc.flatten vs ∧ (∀ i v, vs[i]? = some v → w.cell? (a.add (from_ * sz + i)) = some v) ∧
        (∀ (j : Nat) (x : α), xs[j]? = some x → ∃ c, cc[j]? = some c ∧ K (L ++ M).heap x c) ∧ ((∀ y ∈ ys, ∀ n ∈ y.1.weights P t, n ≤ reachBytes) → ∀ x ∈ xs, wf x) := by
  intro ys
  induction ys with
  | nil => intro f L hL _; exact ⟨[], [], [], [], by simpa using hL, rfl, rfl, by simp, VRels.nil, fun _ _ h => by simp at h, fun _ _ h => by simp at h, fun _ _ h => by simp at h⟩
  | cons y ys ih =>
    intro f L hL h
    have h0 := h 0 (by simp)
    simp only [List.getElem?_cons_zero, Nat.add_zero, Option.bind_eq_some_iff] at h0
    obtain ⟨cs, hcs, hy⟩ := h0
    obtain ⟨M, avs, x, h1, h2, h3, h4⟩ := O.op hy L hL
    obtain ⟨M', cc, xs, vs, g0, g1, g2, g3, g4, g5, g6, g7⟩ := ih (f + 1) (L ++ M) h1 (fun i hi => by
      have := h (i + 1) (by simp; omega)
      simpa [show f + (i + 1) = f + 1 + i by omega] using this)
    have hs := World.cells?_some hcs
    have eM : L ++ (M ++ M') = L ++ M ++ M' := (List.append_assoc _ _ _).symm
    refine ⟨M ++ M', avs :: cc, x :: xs, cs ++ vs, by rw [eM]; exact g0, by simp [g1], by simp [g2], by rw [List.length_append, g3, hs.2.1, List.length_cons, Nat.succ_mul, Nat.add_comm], by rw [eM, List.flatten_cons]; exact (VRels.mono (Lays.mu_le _ _) _ _ h2).append g4, ?_, ?_, ?_⟩
    · intro i v hi
      by_cases hlt : i < sz
      · rw [List.getElem?_append_left (by rw [hs.2.1]; exact hlt)] at hi
        have := hs.2.2 i hlt
        rw [addr_add_add, hi] at this
        exact this
      · rw [List.getElem?_append_right (by rw [hs.2.1]; omega), hs.2.1] at hi
        have := g5 _ _ hi
        rw [Nat.succ_mul, show f * sz + sz + (i - sz) = f * sz + i by omega] at this
        exact this
    · intro j x' hj
      rw [eM]
      cases j with
      | zero => simp only [List.getElem?_cons_zero, Option.some.injEq] at hj; subst hj; exact ⟨avs, rfl, O.ext (Lays.ext _ _) h3⟩
      | succ j => exact g6 j x' (by simpa using hj)
    · intro hw x' hx'
      rcases List.mem_cons.1 hx' with rfl | hx'
      · exact h4 (hw y (by simp))
      · exact g7 (fun y' hy' => hw y' (by simp [hy'])) x' hx'

theorem cut_pad {α : Type} (o : Nat) (z : α) (c : List α) : cut (List.replicate o z ++ c) o c.length = some c := by
  unfold cut
  have : (List.replicate o z ++ c).drop o = c := by
    rw [List.drop_append_of_le_length (by simp)]
    simp
  simp [this]

theorem Opn.slice' {P : Program} {t e : TypeId} {α : Type} {K : H → α → List AV → Prop} {wf : α → Prop} {sz : Nat} (ht : P.underlying t = some (.slice e)) (hc : P.cellsOf t = 1) {B : Nat} (hB : P.bytesOf e = B) (O : Opn P e K wf (sz + 1)) :
    Opn P t (KSl K (sz + 1)) (WSl B wf) 1 :=
  ⟨hc, by
    rintro h h' xs cs hx ⟨v, rfl, hv⟩
    refine ⟨v, rfl, hv.imp id ?_⟩
    rintro ⟨a, c, rfl, h1, h2, cc, h3, h4, h5⟩
    refine ⟨a, c, rfl, h1, Nat.lt_of_lt_of_le h2 hx.1, cc, by rw [ldn_same (hx.2 _ h2)]; exact h3, h4, fun j x hj => ?_⟩
    obtain ⟨c, g1, g2⟩ := h5 j x hj
    exact ⟨c, g1, O.ext hx g2⟩, fun ⟨v, h, _⟩ => by rw [h]; rfl, fun {D enc w base held fuel cs x} h L hL => by
    rcases DataW.trod_slice ht h with ⟨rfl, rfl⟩ | ⟨a, len, cap, elems, rest, n, _, rfl, rfl, hb, hl, hm, hlen, hel, hsp, hns⟩
    · exact ⟨[], [.nils], [], by simpa using hL, ⟨_, _, rfl, rfl, rfl⟩, ⟨_, rfl, .inl ⟨rfl, rfl⟩⟩, fun _ => ⟨by simp, fun x hx => by simp at hx⟩⟩
    · by_cases h0 : cap = 0
      · -- no cell at all
        have hl0 : len = 0 := by omega
        subst h0; subst hl0
        obtain ⟨Z, hZ⟩ : ∃ Z : Option RB × Blk, Z = ((none : Option RB), Blk.cells 0 0 [] 0 true) := ⟨_, rfl⟩
        have hO := Lays.hole hL
        rw [← hZ] at hO
        have hget : (L ++ [Z]).heap.get L.length = some (.cells 0 0 [] 0 true) := by rw [Lays.heap_get]; simp [hZ]
        refine ⟨[Z], [.sl ⟨L.length, 0, 0⟩ 0 (.ex 0)], [], hO, ⟨_, _, rfl, .inr ⟨rfl, rfl, a, rfl⟩, rfl⟩, ⟨_, rfl, .inr ⟨⟨L.length, 0, 0⟩, 0, rfl, Nat.le_refl _, by rw [Lays.heap_n]; simp, [], ?_, rfl, fun j x hj => by simp at hj⟩⟩, fun _ => ⟨by simp, fun x hx => by simp at hx⟩⟩
        unfold H.ldn H.row
        simp [hget, cut]
      · have hfirst : ∃ u, w.cell? a = some u := by
          have get0 : ∀ (i : Nat) (y : Option (DataW D × List MemPlace)), (w.cells? base (a.add (i * P.cellsOf e)) (P.cellsOf e)).bind (DataW.trod enc P w base (fun _ => true) held n e) = y → y.isSome = true → i = 0 → ∃ u, w.cell? a = some u := by
            intro i y hy hs hi
            subst hi
            rw [Nat.zero_mul] at hy
            cases hcs : w.cells? base (a.add 0) (P.cellsOf e) with
            | none => rw [hcs] at hy; simp at hy; subst hy; simp at hs
            | some cs =>
              have := World.cells?_some hcs
              rw [O.cells] at this
              have h3 := this.2.2 0 (by omega)
              have e0 : (a.add 0).add 0 = a := by simp [Addr.add]
              rw [e0] at h3
              cases cs with
              | nil => simp at this
              | cons u cs => exact ⟨u, by simpa using h3⟩
          by_cases hl0 : len = 0
          · obtain ⟨q1, q2⟩ := hsp rfl
            have := q2 0 (by omega)
            refine get0 (len + 0) _ this ?_ (by omega)
            rw [List.getElem?_eq_getElem (by omega)]; rfl
          · have := hel 0 (by omega)
            refine get0 0 _ this ?_ rfl
            rw [List.getElem?_eq_getElem (by omega)]; rfl
        obtain ⟨hspot, c, e', fz, hr⟩ : a.spot = none ∧ ∃ c e fz, w.heap[a.block]? = some (.cells c e fz) := by
          obtain ⟨u, hu⟩ := hfirst
          unfold World.cell? at hu
          split at hu
          · rename_i c e fz hh
            split at hu
            · simp at hu
            · rename_i hs
              exact ⟨by simpa using hs, c, e, fz, hh⟩
          · simp at hu
        obtain ⟨M, cc, xs, vs, g0, g1, g2, g3, g4, g5, g6, g7⟩ := Opn.all O (a := a) elems 0 L hL (fun i hi => by
          rw [Nat.zero_add]
          have := hel i (by omega)
          rwa [O.cells] at this)
        have hsn := Lays.snoc g0 (o := a.off) hr g4 (fun i v hi => by
          have := g5 i v hi
          rw [Nat.zero_mul, Nat.zero_add] at this
          have h2 : w.cell? (a.add i) = c[a.off + i]? := by
            unfold World.cell? Addr.add
            by_cases hi0 : i = 0 <;> simp [hi0, hr, hspot]
          rw [h2] at this
          simpa using this)
        have hflat : cc.flatten.length = xs.length * (sz + 1) := by rw [g4.length, g3, g1]
        obtain ⟨Z, hZ⟩ : ∃ Z : Option RB × Blk, Z = (some ⟨a.block, c.size⟩, .cells 0 e' (List.replicate a.off (.bool false) ++ cc.flatten) a.off true) := ⟨_, rfl⟩
        rw [← hZ] at hsn
        have eM : L ++ (M ++ [Z]) = L ++ M ++ [Z] := (List.append_assoc _ _ _).symm
        have hmu : (L ++ M ++ [Z]).mu (L ++ M).length 0 = some ⟨a.block, c.size⟩ := by
          unfold Lays.mu
          rw [if_pos rfl, List.getElem?_append_right (Nat.le_refl _), Nat.sub_self]
          simp [hZ]
        have hget : (L ++ M ++ [Z]).heap.get (L ++ M).length = some (.cells 0 e' (List.replicate a.off (.bool false) ++ cc.flatten) a.off true) := by
          rw [Lays.heap_get, List.getElem?_append_right (Nat.le_refl _), Nat.sub_self]
          simp [hZ]
        refine ⟨M ++ [Z], [.sl ⟨(L ++ M).length, 0, a.off⟩ xs.length (.ex cap)], xs, by rw [eM]; exact hsn, ?_, ?_, fun hw => ⟨?_, g7 ?_⟩⟩
        · rw [eM]
          refine ⟨_, _, rfl, .inl ⟨_, hmu, ?_, by omega⟩, rfl⟩
          rw [g1, hlen]
          congr 2
          obtain ⟨b, o, s⟩ := a
          simp only at hspot
          subst hspot
          rfl
        · rw [eM]
          refine ⟨_, rfl, .inr ⟨_, cap, rfl, by omega, by rw [Lays.heap_n]; simp, cc, ?_, by omega, fun j x hj => ?_⟩⟩
          · unfold H.ldn H.row
            simp only [hget, BEq.rfl, Bool.not_true, Bool.false_or, Nat.le_refl, decide_true, Bool.and_self, if_true]
            rw [← hflat]
            exact cut_pad _ _ _
          · obtain ⟨c, q1, q2⟩ := g6 j x hj
            exact ⟨c, q1, O.ext (Lays.ext _ _) q2⟩
        · have h0 := hw (((elems.map (·.1)).length + (rest.map (·.1)).length) * P.bytesOf e) (by simp [DataW.weights, ht])
          rw [List.length_map, List.length_map, hB] at h0
          have h1 : xs.length * B ≤ (elems.length + rest.length) * B := Nat.mul_le_mul_right _ (by omega)
          omega
        · intro y hy n hn
          refine hw n ?_
          simp only [DataW.weights, ht, List.mem_cons, List.mem_append]
          exact .inr (.inl (weightsAll_mem (List.mem_map_of_mem hy) n hn))⟩

theorem Opn.slice {P : Program} {t e : TypeId} {α : Type} {K : H → α → List AV → Prop} {wf : α → Prop} {sz : Nat} (ht : P.underlying t = some (.slice e)) (hc : P.cellsOf t = 1) {B : Nat} (hB : P.bytesOf e = B) (O : Opn P e K wf sz) (h0 : sz ≠ 0 := by decide) :
    Opn P t (KSl K sz) (WSl B wf) 1 := by
  cases sz with
  | zero => exact absurd rfl h0
  | succ s => exact Opn.slice' ht hc hB O

/-! Arrays of numbers -/
def KInts (k : IntKind) (n : Nat) (_ : H) (xs : List Int) (cs : List AV) : Prop := cs = xs.map (AV.int k) ∧ xs.length = n
theorem rels_map {k : IntKind} {μ : Mu} : ∀ (xs : List Int), VRels μ (xs.map (AV.int k)) (xs.map (Value.int k))
  | [] => rfl
  | x :: xs => ⟨_, _, rfl, rfl, rels_map xs⟩
theorem Opn.ints {P : Program} {t e : TypeId} {k : IntKind} {n : Nat} (ht : P.underlying t = some (.array n e)) (he : P.underlying e = some (.int k)) (hce : P.cellsOf e = 1) (hc : P.cellsOf t = n) : Opn P t (KInts k n) (fun xs => ∀ x ∈ xs, k.min ≤ x ∧ x ≤ k.max) n :=
  ⟨hc, fun _ h => h, fun h => by rw [h.1, List.length_map]; exact h.2, fun {D enc w base held fuel cs x} h L hL => by
    obtain ⟨xs, m, _, rfl, hl, hn, hel⟩ := DataW.trod_array ht h
    rw [hc] at hl
    have key : ∀ (cs : List Value), (∀ (i : Nat), i < cs.length → ∃ z, DataW.trod enc P w base (fun _ => true) held m e ((cs.drop (i * 1)).take 1) = some z) → ∃ ns : List Int, cs = ns.map (Value.int k) ∧ ∀ x ∈ ns, k.min ≤ x ∧ x ≤ k.max := by
      intro cs
      induction cs with
      | nil => exact fun _ => ⟨[], rfl, fun x hx => by simp at hx⟩
      | cons c cs ih =>
        intro hall
        obtain ⟨z, hz⟩ := hall 0 (by simp)
        simp only [Nat.zero_mul, List.drop_zero, List.take_succ_cons, List.take_zero] at hz
        obtain ⟨n0, e1, e2, hw⟩ := DataW.trod_int he hz
        simp only [List.cons.injEq, and_true] at e1
        obtain ⟨ns, e3, h3⟩ := ih (fun i hi => by
          obtain ⟨z, hz⟩ := hall (i + 1) (by simp; omega)
          exact ⟨z, by simpa using hz⟩)
        refine ⟨n0 :: ns, by rw [e1, e3]; rfl, fun x hx => ?_⟩
        rcases List.mem_cons.1 hx with rfl | hx
        · simpa [Lit.wf] using hw
        · exact h3 x hx
    obtain ⟨ns, rfl, hb⟩ := key cs (fun i hi => by
      have := hel i (by omega)
      rw [hce] at this
      rw [this, List.getElem?_eq_getElem (by omega)]
      exact ⟨_, rfl⟩)
    exact ⟨[], ns.map (AV.int k), ns, by simpa using hL, by simpa using rels_map ns, ⟨rfl, by simpa using hl⟩, fun _ => hb⟩⟩

/-! Structs -/
structure OpnF (P : Program) (fs : List Field) (o : Nat) {α : Type} (K : H → α → List AV → Prop) (wf : α → Prop) (sz : Nat) : Prop where
  ext : ∀ {h h' : H} {a : α} {cs : List AV}, Ext h h' → K h a cs → K h' a cs
  len : ∀ {h : H} {a : α} {cs : List AV}, K h a cs → cs.length = sz
  op : ∀ {D : Type} {enc : TypeId × Value → D} {w : World} {base : Nat} {held : Bool} {n : Nat} {cs : List Value} {xs : List (DataW D × List MemPlace)},
    (∀ (i : Nat) (f : Field), fs[i]? = some f → DataW.trod enc P w base (fun _ => true) held n f.type ((cs.drop f.offset).take (P.cellsOf f.type)) = xs[i]?) → xs.length = fs.length → o + sz ≤ cs.length → ∀ L : Lays, L.Ok w →
    ∃ (M : Lays) (avs : List AV) (a : α), (L ++ M).Ok w ∧ VRels (L ++ M).mu avs ((cs.drop o).take sz) ∧ K (L ++ M).heap a avs ∧ ((∀ n ∈ DataW.weightsEach P (fs.map (·.type)) (xs.map (·.1)), n ≤ reachBytes) → wf a)

theorem OpnF.one {P : Program} {f : Field} {o : Nat} {α : Type} {K : H → α → List AV → Prop} {wf : α → Prop} {sz : Nat} (O : Opn P f.type K wf sz) (ho : f.offset = o) : OpnF P [f] o K wf sz :=
  ⟨O.ext, O.len, fun {D enc w base held n cs xs} h hl hc L hL => by
    obtain ⟨x, rfl⟩ : ∃ x, xs = [x] := by
      cases xs with
      | nil => simp at hl
      | cons x xs => cases xs with
        | nil => exact ⟨x, rfl⟩
        | cons y ys => simp at hl
    have h0 := h 0 f rfl
    simp only [List.getElem?_cons_zero] at h0
    obtain ⟨M, avs, a, h1, h2, h3, h4⟩ := O.op h0 L hL
    rw [ho, O.cells] at h2
    exact ⟨M, avs, a, h1, h2, h3, fun hh => h4 (fun n hn => hh n (by simp only [List.map_cons, List.map_nil, DataW.weightsEach, List.mem_append]; exact .inl hn))⟩⟩

def KPair {α β : Type} (K : H → α → List AV → Prop) (K' : H → β → List AV → Prop) (h : H) (p : α × β) (cs : List AV) : Prop := ∃ x y, cs = x ++ y ∧ K h p.1 x ∧ K' h p.2 y
theorem OpnF.more {P : Program} {f : Field} {fs : List Field} {o o' : Nat} {α β : Type} {K : H → α → List AV → Prop} {wf : α → Prop} {K' : H → β → List AV → Prop} {wf' : β → Prop} {sz sz' : Nat} (O : Opn P f.type K wf sz) (ho : f.offset = o) (ho' : o + sz = o') (F : OpnF P fs o' K' wf' sz') :
    OpnF P (f :: fs) o (KPair K K') (fun p => wf p.1 ∧ wf' p.2) (sz + sz') :=
  ⟨by
    rintro h h' p cs hx ⟨x, y, rfl, h1, h2⟩
    exact ⟨x, y, rfl, O.ext hx h1, F.ext hx h2⟩, by
    rintro h p cs ⟨x, y, rfl, h1, h2⟩
    rw [List.length_append, O.len h1, F.len h2], fun {D enc w base held n cs xs} h hl hc L hL => by
    obtain ⟨x, xs, rfl⟩ : ∃ x xs', xs = x :: xs' := by
      cases xs with
      | nil => simp at hl
      | cons x xs => exact ⟨x, xs, rfl⟩
    subst ho'
    have h0 := h 0 f rfl
    simp only [List.getElem?_cons_zero] at h0
    obtain ⟨M, avs, a, h1, h2, h3, h4⟩ := O.op h0 L hL
    rw [ho, O.cells] at h2
    obtain ⟨M', avs', b, g1, g2, g3, g4⟩ := F.op (xs := xs) (cs := cs) (fun i g hg => by have := h (i + 1) g (by simpa using hg); simpa using this) (by simpa using hl) (by omega) (L ++ M) h1
    have eM : L ++ (M ++ M') = L ++ M ++ M' := (List.append_assoc _ _ _).symm
    refine ⟨M ++ M', avs ++ avs', (a, b), by rw [eM]; exact g1, ?_, ⟨avs, avs', rfl, ?_, by rw [eM]; exact g3⟩, fun hh => ⟨h4 (fun n hn => hh n ?_), g4 (fun n hn => hh n ?_)⟩⟩
    · rw [eM, List.take_add, List.drop_drop]
      exact (VRels.mono (Lays.mu_le _ _) _ _ h2).append g2
    · rw [eM]; exact O.ext (Lays.ext _ _) h3
    · simp only [List.map_cons, DataW.weightsEach, List.mem_append]; exact .inl hn
    · simp only [List.map_cons, DataW.weightsEach, List.mem_append]; exact .inr hn⟩
theorem Opn.struct {P : Program} {t : TypeId} {fs : Array Field} {α : Type} {K : H → α → List AV → Prop} {wf : α → Prop} {sz : Nat} (ht : P.underlying t = some (.struct fs)) (hc : P.cellsOf t = sz) (F : OpnF P fs.toList 0 K wf sz) : Opn P t K wf sz :=
  ⟨hc, F.ext, F.len, fun {D enc w base held fuel cs x} h L hL => by
    obtain ⟨xs, n, _, rfl, hl, hxl, hx⟩ := DataW.trod_struct ht h
    obtain ⟨M, avs, a, h1, h2, h3, h4⟩ := F.op (xs := xs) (cs := cs) (fun i f hf => hx i f (by simpa using hf)) (by simpa using hxl) (by omega) L hL
    rw [List.drop_zero, List.take_of_length_le (by omega)] at h2
    exact ⟨M, avs, a, h1, h2, h3, fun hh => h4 (fun n hn => hh n (by simpa only [DataW.weights, ht] using hn))⟩⟩

/-! ### Rows of bytes -/

theorem KSl.bytes {h : H} {xs : List Int} {cs : List AV} (hk : KSl (KInt .u8) 1 h xs cs) (hw : ∀ n ∈ xs, IntKind.u8.min ≤ n ∧ n ≤ IntKind.u8.max) : ∃ v l, cs = [v] ∧ Bs h v l ∧ l.length = xs.length ∧ ∀ a n c, v = .sl a n c → ∃ k, c = .ex k ∧ n ≤ k := by
  obtain ⟨v, rfl, hv⟩ := hk
  obtain ⟨l, hl⟩ : ∃ l : List UInt8, xs = l.map fun c => (c.toNat : Int) := by
    clear hv
    induction xs with
    | nil => exact ⟨[], rfl⟩
    | cons x xs ih =>
      obtain ⟨l, rfl⟩ := ih (fun n hn => hw n (by simp [hn]))
      have := hw x (by simp)
      have : 0 ≤ x ∧ x ≤ 255 := by simpa [IntKind.min, IntKind.max, IntKind.bits, IntKind.signed] using this
      refine ⟨UInt8.ofNat x.toNat :: l, ?_⟩
      rw [List.map_cons, UInt8.toNat_ofNat']
      congr 1
      omega
  subst hl
  rcases hv with ⟨rfl, h1⟩ | ⟨a, c, rfl, h1, h2, cc, h3, h4, h5⟩
  · exact ⟨.nils, [], rfl, .inl ⟨rfl, rfl⟩, by rw [h1]; rfl, fun _ _ _ e => by simp at e⟩
  · refine ⟨_, l, rfl, .inr ⟨a, .ex c, by rw [List.length_map], h2, ?_⟩, by simp, fun a' n' c' e => ?_⟩
    · have e : cc.flatten = bytesAV l := by
        have hcc : cc = l.map fun c => [AV.int .u8 c.toNat] := by
          apply List.ext_getElem?
          intro j
          rw [List.getElem?_map]
          cases hj : l[j]? with
          | none =>
            have : l.length ≤ j := by simpa using hj
            rw [List.getElem?_eq_none (by rw [h4, List.length_map]; exact this)]
            rfl
          | some x =>
            obtain ⟨c, g1, g2⟩ := h5 j x.toNat (by rw [List.getElem?_map, hj]; rfl)
            rw [g1, g2]
            rfl
        rw [hcc]
        unfold bytesAV
        clear h3 h4 h5 hcc
        induction l with
        | nil => rfl
        | cons x l ih => rw [List.map_cons, List.flatten_cons, ih (fun n hn => hw n (by rw [List.map_cons]; exact List.mem_cons_of_mem _ hn)) (by simp at h1 ⊢; omega)]; rfl
      rw [List.length_map, Nat.mul_one, e] at h3
      exact h3
    · simp only [AV.sl.injEq] at e
      obtain ⟨_, rfl, rfl⟩ := e
      exact ⟨c, rfl, h1⟩

/-- An argument's data. -/
theorem Opn.arg {P : Program} {t : TypeId} {α : Type} {K : H → α → List AV → Prop} {wf : α → Prop} {sz : Nat} (O : Opn P t K wf sz) {D : Type} {enc : TypeId × Value → D} {w : World} {base : Nat} {held : Bool} {v : Value} {x : DataW D} {ps : List MemPlace} {ts : List TypeId} {ds : List (DataW D)} {j : Nat}
    (hsz : (DataW.weightsEach P ts ds).all (· ≤ reachBytes) = true) (ht : ts[j]? = some t) (hd : ds[j]? = some x) (h : DataW.Trod enc P w base (fun _ => true) held t v x ps) (L : Lays) (hL : L.Ok w) :
    ∃ (M : Lays) (avs : List AV) (a : α), (L ++ M).Ok w ∧ VRels (L ++ M).mu avs v.cells.toList ∧ K (L ++ M).heap a avs ∧ wf a := by
  obtain ⟨fuel, hg⟩ := h
  obtain ⟨M, avs, a, h1, h2, h3, h4⟩ := O.op hg L hL
  exact ⟨M, avs, a, h1, h2, h3, h4 (fun n hn => by simpa using List.all_eq_true.1 hsz n (DataW.weights_mem_each ht hd n hn))⟩

/-- A value of one cell. -/
theorem one_cell {P : Program} {t : TypeId} {d : TypeDesc} (ht : P.underlying t = some d) (hd : (∀ fs, d ≠ .struct fs) ∧ ∀ n e, d ≠ .array n e) {w : World} {r : Reach} {b : Nat} {v : Value} (h : Value.okWide P w r b t v) : v.cells.toList = [v] := by
  have h : Cell.okWide P w r b t v := by
    unfold Value.okWide at h
    rw [ht] at h
    split at h
    · rename_i fs e; exact absurd (Option.some.inj e) (hd.1 fs)
    · rename_i n e' e; exact absurd (Option.some.inj e) (hd.2 n e')
    · exact h
  cases v <;> try rfl
  exfalso
  cases d <;> simp [Cell.okWide, Cell.ok, ht] at h

theorem agg_cell {P : Program} {t : TypeId} {fs : Array Field} (ht : P.underlying t = some (.struct fs)) {w : World} {r : Reach} {b : Nat} {v : Value} (h : Value.okWide P w r b t v) : ∃ cs, v = .agg cs := by
  simp only [Value.okWide, ht] at h
  obtain ⟨cs, rfl, _⟩ := h
  exact ⟨cs, rfl⟩

theorem rel_one {μ : Mu} {x : AV} {v : Value} (hv : v.cells.toList = [v]) (h : VRels μ [x] v.cells.toList) : VRel μ x v := by
  rw [hv] at h
  obtain ⟨u, y, e, h1, rfl⟩ := h
  simp only [List.cons.injEq] at e
  rw [e.1]
  exact h1

theorem rel_agg {μ : Mu} {avs : List AV} {cs : Array Value} (h : VRels μ avs (Value.agg cs).cells.toList) : VRel μ (.agg avs) (.agg cs) := ⟨cs, rfl, h⟩

theorem Lays.ok_nil (w : World) : Lays.Ok [] w := fun b rb B h => by simp at h

end Go.Det
