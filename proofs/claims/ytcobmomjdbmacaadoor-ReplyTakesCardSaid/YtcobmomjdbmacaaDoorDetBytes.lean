/- Rows of bytes in the deterministic machine's memory: what is read of them, what is appended to them. -/
import Derived.Test.YtcobmomjdbmacaaDoorDetWp
import Derived.Test.YtcobmomjdbmacaaDoorDetRel
set_option linter.unusedVariables false
set_option linter.unusedSimpArgs false
set_option linter.unusedSectionVars false
namespace Go.Det

/-- What was there stands as it stood. -/
def Ext (h h' : H) : Prop := h.n ≤ h'.n ∧ ∀ b, b < h.n → h'.get b = h.get b

theorem Ext.refl (h : H) : Ext h h := ⟨Nat.le_refl _, fun _ _ => rfl⟩
theorem Ext.trans {h h' h'' : H} (a : Ext h h') (b : Ext h' h'') : Ext h h'' := ⟨Nat.le_trans a.1 b.1, fun k hk => (b.2 k (Nat.lt_of_lt_of_le hk a.1)).trans (a.2 k hk)⟩
theorem Ext.new (h : H) (B : Blk) : Ext h (h.new B) := ⟨by simp, fun b hb => h.get_new_ne b B (by omega)⟩

/-- A row of bytes as it reads. -/
def Bs (h : H) (v : AV) (l : List UInt8) : Prop := (v = .nils ∧ l = []) ∨ ∃ a c, v = .sl a l.length c ∧ a.b < h.n ∧ h.ldn a l.length = some (bytesAV l)

theorem row_same {h h' : H} {a : AA} (e : h'.get a.b = h.get a.b) : h'.row a = h.row a := by unfold H.row; rw [e]
theorem ldn_same {h h' : H} {a : AA} (e : h'.get a.b = h.get a.b) (n : Nat) : h'.ldn a n = h.ldn a n := by unfold H.ldn; rw [row_same e]

theorem Bs.ext {h h' : H} {v : AV} {l : List UInt8} (hb : Bs h v l) (he : Ext h h') : Bs h' v l := by
  rcases hb with ⟨rfl, rfl⟩ | ⟨a, c, rfl, h1, h2⟩
  · exact .inl ⟨rfl, rfl⟩
  · exact .inr ⟨a, c, rfl, Nat.lt_of_lt_of_le h1 he.1, by rw [ldn_same (he.2 _ h1)]; exact h2⟩

/-- A row of bytes of its own, made at lo or later: what is appended stands behind. -/
def Ow (lo : Nat) (h : H) (v : AV) (l : List UInt8) : Prop := (v = .nils ∧ l = []) ∨ ∃ b g, lo ≤ b ∧ b < h.n ∧ h.get b = some (.cells g 5 (bytesAV l) 0 false) ∧ (v = .sl ⟨b, g, 0⟩ l.length (.op 1) ∨ v = .sl ⟨b, g, 0⟩ l.length (.ex l.length))

theorem bytes_len (l : List UInt8) : (bytesAV l).length = l.length := by simp [bytesAV]
theorem bytes_app (l m : List UInt8) : bytesAV l ++ bytesAV m = bytesAV (l ++ m) := by simp [bytesAV]
theorem cut_all {α : Type} (c : List α) : cut c 0 c.length = some c := by simp [cut]

theorem Ow.bs {lo : Nat} {h : H} {v : AV} {l : List UInt8} (ho : Ow lo h v l) : Bs h v l := by
  rcases ho with ⟨rfl, rfl⟩ | ⟨b, g, _, h1, h2, h3⟩
  · exact .inl ⟨rfl, rfl⟩
  · have hl : h.ldn ⟨b, g, 0⟩ l.length = some (bytesAV l) := by
      unfold H.ldn H.row
      simp only [h2, BEq.rfl, if_true]
      rw [← bytes_len l]
      exact cut_all _
    rcases h3 with rfl | rfl <;> exact .inr ⟨_, _, rfl, h1, hl⟩

theorem Ow.mono {lo lo' : Nat} {h : H} {v : AV} {l : List UInt8} (ho : Ow lo h v l) (hl : lo' ≤ lo) : Ow lo' h v l := by
  rcases ho with h1 | ⟨b, g, h1, h2⟩
  · exact .inl h1
  · exact .inr ⟨b, g, Nat.le_trans hl h1, h2⟩

theorem Ow.ext {lo : Nat} {h h' : H} {v : AV} {l : List UInt8} (ho : Ow lo h v l) (he : Ext h h') : Ow lo h' v l := by
  rcases ho with h1 | ⟨b, g, h1, h2, h3, h4⟩
  · exact .inl h1
  · exact .inr ⟨b, g, h1, Nat.lt_of_lt_of_le h2 he.1, by rw [he.2 _ h2]; exact h3, h4⟩

theorem bytes_one (l : List UInt8) : (bytesAV l).all AV.one = true := by simp [bytesAV, AV.one]

theorem Bs.src {h : H} {v : AV} {l : List UInt8} (hb : Bs h v l) : srcCells h 1 v = some (l.length, bytesAV l) := by
  rcases hb with ⟨rfl, rfl⟩ | ⟨a, c, rfl, _, h2⟩
  · rfl
  · simp only [srcCells, Nat.mul_one, h2, Option.map_some]

theorem Bs.notStr {h : H} {v : AV} {l : List UInt8} (hb : Bs h v l) : isStrV v = false := by
  rcases hb with ⟨rfl, rfl⟩ | ⟨a, c, rfl, _, h2⟩ <;> rfl

/-- What lies at lo or later may change. -/
def Ext2 (lo : Nat) (h h' : H) : Prop := h.n ≤ h'.n ∧ ∀ b, b < lo → h'.get b = h.get b
theorem Ext2.trans {lo : Nat} {h h' h'' : H} (a : Ext2 lo h h') (b : Ext2 lo h' h'') : Ext2 lo h h'' := ⟨Nat.le_trans a.1 b.1, fun k hk => (b.2 k hk).trans (a.2 k hk)⟩
theorem Ext.two {lo : Nat} {h h' : H} (a : Ext h h') (hl : lo ≤ h.n) : Ext2 lo h h' := ⟨a.1, fun b hb => a.2 b (by omega)⟩
theorem Ext2.one {h h' : H} (a : Ext2 h.n h h') : Ext h h' := a

/-- Bytes appended to a row of its own. -/
theorem Ow.app {lo : Nat} {h : H} {x y : AV} {l m : List UInt8} (hx : Ow lo h x l) (hy : Bs h y m) (hlo : lo ≤ h.n) (hl : l.length + m.length ≤ maxRow) :
    ∃ v h', append h 5 1 1 x y = some (.val v h') ∧ Ow lo h' v (l ++ m) ∧ Ext2 lo h h' ∧ (∀ b, b < h.n → (∀ g n c, x ≠ .sl ⟨b, g, 0⟩ n c) → h'.get b = h.get b) := by
  have hmr : maxRow ≤ 9223372036854775807 := by unfold maxRow; omega
  unfold append
  rw [hy.src]
  simp only []
  rcases hx with ⟨rfl, rfl⟩ | ⟨b, g, h1, h2, h3, h4⟩
  · simp only [List.length_nil, Nat.zero_add, Nat.mul_one] at *
    by_cases hm : m = []
    · subst hm
      exact ⟨.nils, h, by simp, .inl ⟨rfl, rfl⟩, ⟨Nat.le_refl _, fun _ _ => rfl⟩, fun _ _ _ => rfl⟩
    · have hm0 : m.length ≠ 0 := by simpa using hm
      refine ⟨_, _, by rw [if_neg (by simpa using hm0), if_pos (by simp [bytes_one]; omega)], .inr ⟨h.n, 0, hlo, by simp, by rw [h.get_new]; simp, .inl (by simp)⟩, (Ext.new h _).two hlo, fun b hb _ => h.get_new_ne b _ (by omega)⟩
  · have hbl := bytes_len l
    rcases h4 with rfl | rfl
    · simp only []
      by_cases hm : m = []
      · subst hm
        exact ⟨.sl ⟨b, g, 0⟩ l.length (.op 1), h, by simp, .inr ⟨b, g, h1, h2, by simpa using h3, .inl (by simp)⟩, ⟨Nat.le_refl _, fun _ _ => rfl⟩, fun _ _ _ => rfl⟩
      · have hm0 : m.length ≠ 0 := by simpa using hm
        rw [if_neg (by simpa using hm0), if_neg (by simp [bytes_one]; omega)]
        simp only [h3]
        rw [if_pos (by simp [hbl])]
        refine ⟨_, _, rfl, .inr ⟨b, g + 1, h1, by simpa using h2, by rw [h.get_set, bytes_app], .inl (by simp)⟩, ⟨Nat.le_refl _, fun k hk => h.get_set_ne b k _ (by omega)⟩, fun k hk hne => h.get_set_ne b k _ (fun e => hne g l.length (.op 1) (by rw [e]))⟩
    · simp only []
      by_cases hm : m = []
      · subst hm
        exact ⟨.sl ⟨b, g, 0⟩ l.length (.ex l.length), h, by simp, .inr ⟨b, g, h1, h2, by simpa using h3, .inr (by simp)⟩, ⟨Nat.le_refl _, fun _ _ => rfl⟩, fun _ _ _ => rfl⟩
      · have hm0 : m.length ≠ 0 := by simpa using hm
        have hm1 : l.length < l.length + m.length := by omega
        have hld : h.ldn ⟨b, g, 0⟩ (l.length * 1) = some (bytesAV l) := by
          unfold H.ldn H.row
          simp only [h3, BEq.rfl, if_true, Nat.mul_one]
          rw [← hbl]
          exact cut_all _
        rw [if_neg (by simpa using hm0), if_neg (by simp [bytes_one]; omega), if_pos hm1, hld]
        refine ⟨_, _, rfl, .inr ⟨h.n, 0, hlo, by simp, by rw [h.get_new, bytes_app], .inl (by simp)⟩, (Ext.new h _).two hlo, fun k hk _ => h.get_new_ne k _ (by omega)⟩

def b8 (x : Int) : UInt8 := UInt8.ofNat (x % 256).toNat

theorem wrap_u8 (x : Int) : IntKind.u8.wrap x = ((b8 x).toNat : Int) := by
  have h1 : IntKind.u8.wrap x = x % 256 := by simp [IntKind.wrap, IntKind.bits, IntKind.signed]
  rw [h1, b8, UInt8.toNat_ofNat']
  omega

end Go.Det
