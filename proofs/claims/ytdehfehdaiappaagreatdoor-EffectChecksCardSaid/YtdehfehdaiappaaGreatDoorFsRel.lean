/- How an abstract heap stands to a world: values, blocks, the heap; what a step keeps. -/
import Derived.Test.YtdehfehdaiappaaGreatDoorFsCore
namespace Go.Fs

/-- Where each abstract block lies: its real block, the place of its first cell in it, how many cells that block has. -/
structure Emb where
  n : Nat
  blk : Nat → Nat
  sh : Nat → Nat
  size : Nat → Nat
  /-- Of what type each real block's variables are. -/
  ty : Nat → Nat

mutual
def VRel (ι : Emb) : AV → Value → Prop
  | .bool b, v => v = .bool b
  | .int k n, v => v = .int k n
  | .str s, v => v = .string ⟨s.toArray⟩
  | .ptr none, v => v = .pointer none
  | .ptr (some (b, o)), v => b < ι.n ∧ v = .pointer (some ⟨ι.blk b, ι.sh b + o, none⟩)
  | .slice none len (.exact c), v => len = 0 ∧ c = 0 ∧ v = .slice none 0 0
  | .slice none _ (.opn _), _ => False
  | .slice (some (b, o)) len (.exact c), v => b < ι.n ∧ len ≤ c ∧ ∃ a, v = .slice (some a) len c ∧ (0 < c → a = ⟨ι.blk b, ι.sh b + o, none⟩)
  | .slice (some (b, o)) len (.opn e), v => b < ι.n ∧ 0 < e ∧ ∃ o' c', v = .slice (some ⟨ι.blk b, o', none⟩) len c' ∧ c' ≤ maxLen ∧
      ((o' = ι.sh b + o ∧ len ≤ c' ∧ o' + c' * e = ι.size b) ∨ (len = 0 ∧ c' = 0 ∧ ι.size b ≤ ι.sh b + o))
  | .map none, v => v = .map none
  | .map (some b), v => b < ι.n ∧ v = .map (some (ι.blk b))
  | .func fn a c, v => ∃ ra rc, v = .func fn ra rc ∧ VRels ι a ra.toList ∧ VRels ι c rc.toList
  | .nilFunc, v => v = .nilFunc
  | .iface t x, v => ∃ rx, v = .iface t rx ∧ VRel ι x rx
  | .nilIface, v => v = .nilIface
  | .junk c, v => v.cells = #[v] ∧ (∀ b, v ≠ .bool b) ∧ (c = true → v.oneCell' = true)
  | .agg cs, v => ∃ rs, v = .agg rs ∧ VRels ι cs rs.toList
  | .tuple cs, v => ∃ rs, v = .tuple rs ∧ VRels ι cs rs.toList
def VRels (ι : Emb) : List AV → List Value → Prop
  | [], rs => rs = []
  | c :: cs, rs => ∃ r rs', rs = r :: rs' ∧ VRel ι c r ∧ VRels ι cs rs'
end

structure Emb.le (ι ι' : Emb) : Prop where
  n : ι.n ≤ ι'.n
  blk : ∀ b, b < ι.n → ι'.blk b = ι.blk b
  sh : ∀ b, b < ι.n → ι'.sh b = ι.sh b
  size : ∀ b, b < ι.n → ι'.size b = ι.size b
  ty : ∀ b, b < ι.n → ι'.ty b = ι.ty b

theorem Emb.le_refl (ι : Emb) : ι.le ι := ⟨Nat.le_refl _, fun _ _ => rfl, fun _ _ => rfl, fun _ _ => rfl, fun _ _ => rfl⟩
theorem Emb.le.trans {a b c : Emb} (h : a.le b) (k : b.le c) : a.le c :=
  ⟨Nat.le_trans h.n k.n, fun i hi => (k.blk i (Nat.lt_of_lt_of_le hi h.n)).trans (h.blk i hi), fun i hi => (k.sh i (Nat.lt_of_lt_of_le hi h.n)).trans (h.sh i hi),
    fun i hi => (k.size i (Nat.lt_of_lt_of_le hi h.n)).trans (h.size i hi), fun i hi => (k.ty i (Nat.lt_of_lt_of_le hi h.n)).trans (h.ty i hi)⟩

mutual
theorem VRel.mono {ι ι' : Emb} (h : ι.le ι') : ∀ {a : AV} {v : Value}, VRel ι a v → VRel ι' a v
  | .bool _, _, r | .int _ _, _, r | .str _, _, r | .ptr none, _, r | .map none, _, r | .nilFunc, _, r | .nilIface, _, r => by simpa [VRel] using r
  | .junk _, _, r => by simp only [VRel] at r ⊢; exact r
  | .slice none _ (.exact _), _, r => by simpa [VRel] using r
  | .slice none _ (.opn _), _, r => by simp [VRel] at r
  | .ptr (some (b, o)), v, r => by
    simp only [VRel] at r ⊢
    obtain ⟨hb, rfl⟩ := r
    exact ⟨Nat.lt_of_lt_of_le hb h.n, by rw [h.blk b hb, h.sh b hb]⟩
  | .slice (some (b, o)) len (.exact c), v, r => by
    simp only [VRel] at r ⊢
    obtain ⟨hb, hl, a, rfl, ha⟩ := r
    exact ⟨Nat.lt_of_lt_of_le hb h.n, hl, a, rfl, by rw [h.blk b hb, h.sh b hb]; exact ha⟩
  | .slice (some (b, o)) len (.opn e), v, r => by
    simp only [VRel] at r ⊢
    obtain ⟨hb, he, o', c', rfl, hm, hr⟩ := r
    exact ⟨Nat.lt_of_lt_of_le hb h.n, he, o', c', by rw [h.blk b hb], hm, by rw [h.sh b hb, h.size b hb]; exact hr⟩
  | .map (some b), v, r => by
    simp only [VRel] at r ⊢
    obtain ⟨hb, rfl⟩ := r
    exact ⟨Nat.lt_of_lt_of_le hb h.n, by rw [h.blk b hb]⟩
  | .func fn a c, v, r => by
    simp only [VRel] at r ⊢
    obtain ⟨ra, rc, rfl, h1, h2⟩ := r
    exact ⟨ra, rc, rfl, VRels.mono h h1, VRels.mono h h2⟩
  | .iface t x, v, r => by
    simp only [VRel] at r ⊢
    obtain ⟨rx, rfl, h1⟩ := r
    exact ⟨rx, rfl, VRel.mono h h1⟩
  | .agg cs, v, r => by
    simp only [VRel] at r ⊢
    obtain ⟨rs, rfl, h1⟩ := r
    exact ⟨rs, rfl, VRels.mono h h1⟩
  | .tuple cs, v, r => by
    simp only [VRel] at r ⊢
    obtain ⟨rs, rfl, h1⟩ := r
    exact ⟨rs, rfl, VRels.mono h h1⟩
theorem VRels.mono {ι ι' : Emb} (h : ι.le ι') : ∀ {a : List AV} {v : List Value}, VRels ι a v → VRels ι' a v
  | [], _, r => by simpa [VRels] using r
  | c :: cs, v, r => by
    simp only [VRels] at r ⊢
    obtain ⟨x, xs, rfl, h1, h2⟩ := r
    exact ⟨x, xs, rfl, VRel.mono h h1, VRels.mono h h2⟩
end

mutual
/-- A value that is related names only places that are there. -/
theorem VRel.under {ι : Emb} : ∀ {a : AV} {v : Value}, VRel ι a v → a.under ι.n = true
  | .bool _, _, _ | .int _ _, _, _ | .str _, _, _ | .ptr none, _, _ | .map none, _, _ | .nilFunc, _, _ | .nilIface, _, _ | .junk _, _, _ => by simp [AV.under]
  | .slice none _ _, _, _ => by simp [AV.under]
  | .ptr (some (b, o)), v, r => by simp only [VRel] at r; simp [AV.under, r.1]
  | .slice (some (b, o)) len (.exact c), v, r => by simp only [VRel] at r; simp [AV.under, r.1]
  | .slice (some (b, o)) len (.opn e), v, r => by simp only [VRel] at r; simp [AV.under, r.1]
  | .map (some b), v, r => by simp only [VRel] at r; simp [AV.under, r.1]
  | .func fn a c, v, r => by
    simp only [VRel] at r
    obtain ⟨ra, rc, rfl, h1, h2⟩ := r
    simp [AV.under, VRels.unders h1, VRels.unders h2]
  | .iface t x, v, r => by
    simp only [VRel] at r
    obtain ⟨rx, rfl, h1⟩ := r
    simp [AV.under, VRel.under h1]
  | .agg cs, v, r => by
    simp only [VRel] at r
    obtain ⟨rs, rfl, h1⟩ := r
    simp [AV.under, VRels.unders h1]
  | .tuple cs, v, r => by
    simp only [VRel] at r
    obtain ⟨rs, rfl, h1⟩ := r
    simp [AV.under, VRels.unders h1]
theorem VRels.unders {ι : Emb} : ∀ {a : List AV} {v : List Value}, VRels ι a v → AV.unders ι.n a = true
  | [], _, _ => by simp [AV.unders]
  | c :: cs, v, r => by
    simp only [VRels] at r
    obtain ⟨x, xs, rfl, h1, h2⟩ := r
    simp [AV.unders, VRel.under h1, VRels.unders h2]
end

mutual
/-- Back to a smaller embedding, for values that name its places alone. -/
theorem VRel.back {ι ι' : Emb} (h : ι.le ι') : ∀ {a : AV} {v : Value}, VRel ι' a v → a.under ι.n = true → VRel ι a v
  | .bool _, _, r, _ | .int _ _, _, r, _ | .str _, _, r, _ | .ptr none, _, r, _ | .map none, _, r, _ | .nilFunc, _, r, _ | .nilIface, _, r, _ => by simpa [VRel] using r
  | .junk _, _, r, _ => by simp only [VRel] at r ⊢; exact r
  | .slice none _ (.exact _), _, r, _ => by simpa [VRel] using r
  | .slice none _ (.opn _), _, r, _ => by simp [VRel] at r
  | .ptr (some (b, o)), v, r, u => by
    simp only [VRel] at r ⊢
    simp only [AV.under, decide_eq_true_eq] at u
    obtain ⟨hb, rfl⟩ := r
    exact ⟨u, by rw [h.blk b u, h.sh b u]⟩
  | .slice (some (b, o)) len (.exact c), v, r, u => by
    simp only [VRel] at r ⊢
    simp only [AV.under, decide_eq_true_eq] at u
    obtain ⟨hb, hl, a, rfl, ha⟩ := r
    exact ⟨u, hl, a, rfl, by rw [h.blk b u, h.sh b u] at ha; exact ha⟩
  | .slice (some (b, o)) len (.opn e), v, r, u => by
    simp only [VRel] at r ⊢
    simp only [AV.under, decide_eq_true_eq] at u
    obtain ⟨hb, he, o', c', rfl, hm, hr⟩ := r
    exact ⟨u, he, o', c', by rw [h.blk b u], hm, by rw [h.sh b u, h.size b u] at hr; exact hr⟩
  | .map (some b), v, r, u => by
    simp only [VRel] at r ⊢
    simp only [AV.under, decide_eq_true_eq] at u
    obtain ⟨hb, rfl⟩ := r
    exact ⟨u, by rw [h.blk b u]⟩
  | .func fn a c, v, r, u => by
    simp only [VRel] at r ⊢
    simp only [AV.under, Bool.and_eq_true] at u
    obtain ⟨ra, rc, rfl, h1, h2⟩ := r
    exact ⟨ra, rc, rfl, VRels.back h h1 u.1, VRels.back h h2 u.2⟩
  | .iface t x, v, r, u => by
    simp only [VRel] at r ⊢
    simp only [AV.under] at u
    obtain ⟨rx, rfl, h1⟩ := r
    exact ⟨rx, rfl, VRel.back h h1 u⟩
  | .agg cs, v, r, u => by
    simp only [VRel] at r ⊢
    simp only [AV.under] at u
    obtain ⟨rs, rfl, h1⟩ := r
    exact ⟨rs, rfl, VRels.back h h1 u⟩
  | .tuple cs, v, r, u => by
    simp only [VRel] at r ⊢
    simp only [AV.under] at u
    obtain ⟨rs, rfl, h1⟩ := r
    exact ⟨rs, rfl, VRels.back h h1 u⟩
theorem VRels.back {ι ι' : Emb} (h : ι.le ι') : ∀ {a : List AV} {v : List Value}, VRels ι' a v → AV.unders ι.n a = true → VRels ι a v
  | [], _, r, _ => by simpa [VRels] using r
  | c :: cs, v, r, u => by
    simp only [VRels] at r ⊢
    simp only [AV.unders, Bool.and_eq_true] at u
    obtain ⟨x, xs, rfl, h1, h2⟩ := r
    exact ⟨x, xs, rfl, VRel.back h h1 u.1, VRels.back h h2 u.2⟩
end

/-! ### Lists of related values -/

theorem VRels.length {ι : Emb} : ∀ {a : List AV} {v : List Value}, VRels ι a v → v.length = a.length
  | [], _, r => by simp only [VRels] at r; simp [r]
  | c :: cs, v, r => by
    simp only [VRels] at r
    obtain ⟨x, xs, rfl, h1, h2⟩ := r
    simp [VRels.length h2]

theorem VRels.get {ι : Emb} : ∀ {a : List AV} {v : List Value}, VRels ι a v → ∀ (i : Nat) (c : AV), a[i]? = some c → ∃ r, v[i]? = some r ∧ VRel ι c r
  | [], _, _, i, c, hc => by simp at hc
  | c :: cs, v, r, i, d, hd => by
    simp only [VRels] at r
    obtain ⟨x, xs, rfl, h1, h2⟩ := r
    cases i with
    | zero => simp at hd; subst hd; exact ⟨x, by simp, h1⟩
    | succ i => simpa using VRels.get h2 i d (by simpa using hd)

theorem VRels.mk {ι : Emb} : ∀ {a : List AV} {v : List Value}, v.length = a.length → (∀ (i : Nat) (c : AV), a[i]? = some c → ∃ r, v[i]? = some r ∧ VRel ι c r) → VRels ι a v
  | [], v, hl, _ => by simp only [VRels]; exact List.eq_nil_of_length_eq_zero (by simpa using hl)
  | c :: cs, [], hl, _ => by simp at hl
  | c :: cs, r :: rs, hl, h => by
    simp only [VRels]
    refine ⟨r, rs, rfl, ?_, VRels.mk (by simpa using hl) fun i d hd => by simpa using h (i + 1) d (by simpa using hd)⟩
    obtain ⟨r', h1, h2⟩ := h 0 c (by simp)
    simp at h1; subst h1; exact h2

theorem VRels.append {ι : Emb} : ∀ {a b : List AV} {v u : List Value}, VRels ι a v → VRels ι b u → VRels ι (a ++ b) (v ++ u)
  | [], _, _, _, r, s => by simp only [VRels] at r; subst r; simpa using s
  | c :: cs, b, v, u, r, s => by
    simp only [VRels] at r
    obtain ⟨x, xs, rfl, h1, h2⟩ := r
    simp only [List.cons_append, VRels]
    exact ⟨x, xs ++ u, rfl, h1, VRels.append h2 s⟩

theorem VRels.drop {ι : Emb} {a : List AV} {v : List Value} (h : VRels ι a v) (n : Nat) : VRels ι (a.drop n) (v.drop n) :=
  VRels.mk (by simp [h.length]) fun i c hc => by
    rw [List.getElem?_drop] at hc ⊢
    exact h.get _ c hc

theorem VRels.take {ι : Emb} {a : List AV} {v : List Value} (h : VRels ι a v) (n : Nat) : VRels ι (a.take n) (v.take n) :=
  VRels.mk (by simp [h.length]) fun i c hc => by
    rw [List.getElem?_take] at hc ⊢
    split at hc
    · rename_i hlt; simp only [hlt, if_true]; exact h.get _ c hc
    · cases hc

theorem VRels.set {ι : Emb} {a : List AV} {v : List Value} (h : VRels ι a v) {x : AV} {r : Value} (hx : VRel ι x r) (n : Nat) : VRels ι (a.set n x) (v.set n r) :=
  VRels.mk (by simp [h.length]) fun i c hc => by
    rw [List.getElem?_set] at hc ⊢
    have hl := h.length
    split at hc
    · rename_i hn
      subst hn
      split at hc
      · rename_i hlt
        cases hc
        exact ⟨r, by simp [hl, hlt], hx⟩
      · cases hc
    · rename_i hn
      rw [if_neg hn]
      exact h.get _ c hc

theorem VRels.replicate {ι : Emb} {x : AV} {r : Value} (hx : VRel ι x r) : ∀ n, VRels ι (List.replicate n x) (List.replicate n r)
  | 0 => by simp [VRels]
  | n + 1 => by simp only [List.replicate_succ, VRels]; exact ⟨r, _, rfl, hx, VRels.replicate hx n⟩

theorem VRel.undef {ι : Emb} : VRel ι AV.undef Go.undef := by
  unfold AV.undef Go.undef
  simp [VRel, VRels]

theorem VRels.getD {ι : Emb} {a : List AV} {v : List Value} (h : VRels ι a v) (i : Nat) : VRel ι (a.getD i AV.undef) (v.getD i Go.undef) := by
  have hl := h.length
  simp only [List.getD_eq_getElem?_getD]
  cases ha : a[i]? with
  | none =>
    rw [List.getElem?_eq_none_iff] at ha
    rw [List.getElem?_eq_none (by omega)]
    simpa using VRel.undef
  | some c =>
    obtain ⟨r, h1, h2⟩ := h.get i c ha
    rw [h1]
    simpa using h2

theorem VRel.one {ι : Emb} {a : AV} {v : Value} (h : VRel ι a v) (hn : ∀ cs, a ≠ .agg cs) : v.cells = #[v] := by
  match a, h with
  | .bool _, h | .int _ _, h | .str _, h | .ptr none, h | .map none, h | .nilFunc, h | .nilIface, h => simp only [VRel] at h; subst h; rfl
  | .ptr (some (_, _)), h => simp only [VRel] at h; obtain ⟨_, rfl⟩ := h; rfl
  | .map (some _), h => simp only [VRel] at h; obtain ⟨_, rfl⟩ := h; rfl
  | .slice none _ (.exact _), h => simp only [VRel] at h; obtain ⟨_, _, rfl⟩ := h; rfl
  | .slice none _ (.opn _), h => simp only [VRel] at h
  | .slice (some (_, _)) _ (.exact _), h => simp only [VRel] at h; obtain ⟨_, _, _, rfl, _⟩ := h; rfl
  | .slice (some (_, _)) _ (.opn _), h => simp only [VRel] at h; obtain ⟨_, _, _, _, rfl, _⟩ := h; rfl
  | .func _ _ _, h => simp only [VRel] at h; obtain ⟨_, _, rfl, _⟩ := h; rfl
  | .iface _ _, h => simp only [VRel] at h; obtain ⟨_, rfl, _⟩ := h; rfl
  | .tuple _, h => simp only [VRel] at h; obtain ⟨_, rfl, _⟩ := h; rfl
  | .junk _, h => simp only [VRel] at h; exact h.1
  | .agg cs, _ => exact absurd rfl (hn cs)

/-- The cells of a value. -/
theorem VRel.cells {ι : Emb} {a : AV} {v : Value} (h : VRel ι a v) : VRels ι a.cells v.cells.toList := by
  by_cases hn : ∀ cs, a ≠ .agg cs
  · rw [h.one hn]
    have : a.cells = [a] := by cases a <;> first | rfl | exact absurd rfl (hn _)
    rw [this]
    simp only [VRels]
    exact ⟨v, [], by simp, h, rfl⟩
  · obtain ⟨cs, hc⟩ := Classical.not_forall.1 hn
    have hc := Classical.not_not.1 hc
    subst hc
    simp only [VRel] at h
    obtain ⟨rs, rfl, h1⟩ := h
    simpa [AV.cells, Value.cells] using h1

/-! ### Blocks and heaps -/

def Blk.rw : Blk → Prop
  | .cells _ ro => ro = false
  | .map _ => True
  | .iter _ _ => True
  | .dead | .typ _ _ => False

def Blk.live : Blk → Prop
  | .dead | .typ _ _ => False
  | _ => True

def ERels (ι : Emb) : List (AV × AV) → List MapEntry → Prop
  | [], rs => rs = []
  | (k, x) :: es, rs => ∃ r rs', rs = r :: rs' ∧ VRel ι k r.key ∧ VRel ι x r.val ∧ ERels ι es rs'

/-- What lies in a row's spare room: a value that names no place. -/
def Spare (v : Value) : Prop := ∃ a : AV, ∀ ι' : Emb, VRel ι' a v

def BRel (ι : Emb) (w : World) (b : Nat) : Blk → Prop
  | .cells cs ro => ∃ arr e fr, w.heap[ι.blk b]? = some (.cells arr e fr) ∧ ι.size b = arr.size ∧
      (∀ (i : Nat) (c : AV), cs[i]? = some c → ∃ v, arr[ι.sh b + i]? = some v ∧ VRel ι c v) ∧
      (ro = false → (∀ j, fr.1 ≤ j → j < fr.2 → arr.size ≤ j) ∧ ∀ (j : Nat) (v : Value), ι.sh b + cs.length ≤ j → arr[j]? = some v → Spare v) ∧ ι.ty b = e
  | .map es => ∃ rs clock, w.heap[ι.blk b]? = some (.map rs clock) ∧ ERels ι es rs.toList
  | .iter s pos => w.heap[ι.blk b]? = some (.stringIter ⟨s.toArray⟩ pos) ∧ ι.sh b = 0
  | .typ b' t => b' < ι.n ∧ ι.ty b' = t ∧ ι.sh b' = 0
  | .dead => True

structure Rel (G : Nat) (ι : Emb) (h : AH) (w : World) : Prop where
  n : ι.n = h.n
  dom : ∀ b c, h.get b = some c → b < h.n
  gn : G ≤ h.n
  glob : ∀ g, g < G → ι.blk g = g ∧ ι.sh g = 0
  brel : ∀ b c, h.get b = some c → BRel ι w b c
  sep : ∀ b b' c c', h.get b = some c → h.get b' = some c' → b ≠ b' → c.rw → c'.live → ι.blk b ≠ ι.blk b'

/-- A step: from (ι, h, w) to (ι', h', w'). -/
structure Stp (ι ι' : Emb) (h h' : AH) (w w' : World) : Prop where
  le : ι.le ι'
  os : w'.os = w.os
  tape : w'.tape = w.tape
  output : w'.output = w.output
  size : w.heap.size ≤ w'.heap.size
  kept : ∀ k, k < w.heap.size → (∀ b c, h.get b = some c → c.rw → ι.blk b ≠ k) → w'.heap[k]? = w.heap[k]?
  grow : ∀ b c, h'.get b = some c → c.rw → w.heap.size ≤ ι'.blk b ∨ ∃ b₀ c₀, h.get b₀ = some c₀ ∧ c₀.rw ∧ ι.blk b₀ = ι'.blk b
  nle : h.n ≤ h'.n
  low : h'.low ≤ h.low
  old : ∀ b, b < h'.low → b < h.n → h'.get b = h.get b

theorem Stp.refl (ι : Emb) (h : AH) (w : World) : Stp ι ι h h w w :=
  ⟨ι.le_refl, rfl, rfl, rfl, Nat.le_refl _, fun _ _ _ => rfl, fun b c hb hc => .inr ⟨b, c, hb, hc, rfl⟩, Nat.le_refl _, Nat.le_refl _, fun _ _ _ => rfl⟩

theorem Stp.trans {a b c : Emb} {h k l : AH} {w x y : World} (p : Stp a b h k w x) (q : Stp b c k l x y) : Stp a c h l w y where
  le := p.le.trans q.le
  os := q.os.trans p.os
  tape := q.tape.trans p.tape
  output := q.output.trans p.output
  size := Nat.le_trans p.size q.size
  kept := fun i hi hn => by
    rw [q.kept i (Nat.lt_of_lt_of_le hi p.size) ?_, p.kept i hi hn]
    intro b' c' hb hc he
    rcases p.grow b' c' hb hc with h1 | ⟨b0, c0, h1, h2, h3⟩
    · omega
    · exact hn b0 c0 h1 h2 (h3.trans he)
  grow := fun b' c' hb hc => by
    rcases q.grow b' c' hb hc with h1 | ⟨b0, c0, h1, h2, h3⟩
    · exact .inl (Nat.le_trans p.size h1)
    · rcases p.grow b0 c0 h1 h2 with h4 | ⟨b1, c1, h4, h5, h6⟩
      · exact .inl (by rw [← h3]; exact h4)
      · exact .inr ⟨b1, c1, h4, h5, h6.trans h3⟩
  nle := Nat.le_trans p.nle q.nle
  low := Nat.le_trans q.low p.low
  old := fun b' h1 h2 => by
    rw [q.old b' h1 (Nat.lt_of_lt_of_le h2 p.nle), p.old b' (Nat.lt_of_lt_of_le h1 q.low) h2]

/-- One more draw of the tape. -/
theorem Stp.drew (ι : Emb) (h : AH) (w : World) : Stp ι ι h h w w.drew :=
  ⟨ι.le_refl, rfl, rfl, rfl, Nat.le_refl _, fun _ _ _ => rfl, fun b c hb hc => .inr ⟨b, c, hb, hc, rfl⟩, Nat.le_refl _, Nat.le_refl _, fun _ _ _ => rfl⟩

theorem BRel.mono {ι ι' : Emb} {w w' : World} {b : Nat} {c : Blk} (hb : b < ι.n) (hle : ι.le ι') (hh : c.live → w'.heap[ι.blk b]? = w.heap[ι.blk b]?) (h : BRel ι w b c) : BRel ι' w' b c := by
  cases c with
  | cells cs ro =>
    obtain ⟨arr, e, fr, h1, h2, h3, h4, h4'⟩ := h
    refine ⟨arr, e, fr, by rw [hle.blk b hb, hh trivial, h1], by rw [hle.size b hb, h2], fun i x hx => ?_, fun hro => ⟨(h4 hro).1, by rw [hle.sh b hb]; exact (h4 hro).2⟩, by rw [hle.ty b hb, h4']⟩
    obtain ⟨v, h5, h6⟩ := h3 i x hx
    exact ⟨v, by rw [hle.sh b hb]; exact h5, h6.mono hle⟩
  | map es =>
    obtain ⟨rs, cl, h1, h2⟩ := h
    refine ⟨rs, cl, by rw [hle.blk b hb, hh trivial, h1], ?_⟩
    clear h1 hh
    revert h2
    generalize rs.toList = l
    induction es generalizing l with
    | nil => exact fun h => h
    | cons p es ih =>
      obtain ⟨k, x⟩ := p
      intro h2
      obtain ⟨r, rs', rfl, g1, g2, g3⟩ := h2
      exact ⟨r, rs', rfl, g1.mono hle, g2.mono hle, ih _ g3⟩
  | iter s pos => exact ⟨by rw [hle.blk b hb, hh trivial]; exact h.1, by rw [hle.sh b hb]; exact h.2⟩
  | typ b' t => exact ⟨Nat.lt_of_lt_of_le h.1 hle.n, by rw [hle.ty b' h.1]; exact h.2.1, by rw [hle.sh b' h.1]; exact h.2.2⟩
  | dead => trivial

theorem Rel.drew {G : Nat} {ι : Emb} {h : AH} {w : World} (r : Rel G ι h w) : Rel G ι h w.drew :=
  ⟨r.n, r.dom, r.gn, r.glob, fun b c hb => (r.brel b c hb).mono (by rw [r.n]; exact r.dom b c hb) ι.le_refl fun _ => rfl, r.sep⟩

/-- The embedding with one more block. -/
def Emb.add (ι : Emb) (B s z t : Nat) : Emb :=
  ⟨ι.n + 1, fun b => if b = ι.n then B else ι.blk b, fun b => if b = ι.n then s else ι.sh b, fun b => if b = ι.n then z else ι.size b, fun b => if b = ι.n then t else ι.ty b⟩

theorem Emb.le_add (ι : Emb) (B s z t : Nat) : ι.le (ι.add B s z t) :=
  ⟨Nat.le_succ _, fun b hb => by simp [Emb.add, Nat.ne_of_lt hb], fun b hb => by simp [Emb.add, Nat.ne_of_lt hb], fun b hb => by simp [Emb.add, Nat.ne_of_lt hb], fun b hb => by simp [Emb.add, Nat.ne_of_lt hb]⟩

@[simp] theorem Emb.add_n (ι : Emb) (B s z t : Nat) : (ι.add B s z t).n = ι.n + 1 := rfl
@[simp] theorem Emb.add_blk (ι : Emb) (B s z t : Nat) : (ι.add B s z t).blk ι.n = B := by simp [Emb.add]
@[simp] theorem Emb.add_sh (ι : Emb) (B s z t : Nat) : (ι.add B s z t).sh ι.n = s := by simp [Emb.add]
@[simp] theorem Emb.add_size (ι : Emb) (B s z t : Nat) : (ι.add B s z t).size ι.n = z := by simp [Emb.add]
@[simp] theorem Emb.add_ty (ι : Emb) (B s z t : Nat) : (ι.add B s z t).ty ι.n = t := by simp [Emb.add]

/-- A new block in both: the real one is the heap's next. -/
theorem Rel.push {G : Nat} {ι : Emb} {h : AH} {w : World} (r : Rel G ι h w) (c : Blk) (o : Obj) (z t : Nat) (_hc : c.live)
    (hb : BRel (ι.add w.heap.size 0 z t) (w.alloc o) h.n c) :
    Rel G (ι.add w.heap.size 0 z t) (h.push c) (w.alloc o) ∧ Stp ι (ι.add w.heap.size 0 z t) h (h.push c) w (w.alloc o) := by
  have hn := r.n
  have hlt : ∀ b c, h.get b = some c → c.live → ι.blk b < w.heap.size := fun b c hb hl => by
    have := r.brel b c hb
    cases c with
    | cells cs ro => obtain ⟨arr, e, fr, h1, _⟩ := this; exact (Array.getElem?_eq_some_iff.1 h1).1
    | map es => obtain ⟨rs, cl, h1, _⟩ := this; exact (Array.getElem?_eq_some_iff.1 h1).1
    | iter s p => exact (Array.getElem?_eq_some_iff.1 this.1).1
    | typ _ _ => exact hl.elim
    | dead => exact hl.elim
  have hadd : ∀ b, b ≠ h.n → (ι.add w.heap.size 0 z t).blk b = ι.blk b := fun b hb => by simp [Emb.add, hn, hb]
  have hself : (ι.add w.heap.size 0 z t).blk h.n = w.heap.size := by rw [← hn]; simp
  refine ⟨⟨by simp [hn], fun b d hd => ?_, Nat.le_succ_of_le r.gn, fun g hg => ?_, fun b d hd => ?_, fun b b' d d' hd hd' hne hrw hlive => ?_⟩, ?_⟩
  · rw [Hp.get_push] at hd
    split at hd
    · rename_i he; simp [he]
    · have := r.dom b d hd; simp; omega
  · have := r.gn
    have h1 := r.glob g hg
    simp [Emb.add, show g ≠ ι.n by omega, h1]
  · rw [Hp.get_push] at hd
    split at hd
    · rename_i he; cases hd; rw [he]; exact hb
    · have hbn := r.dom b d hd
      refine (r.brel b d hd).mono (by omega) (ι.le_add _ _ _ _) fun hl => ?_
      exact heap_alloc_old w o _ (hlt b d hd hl)
  · rw [Hp.get_push] at hd hd'
    by_cases e1 : b = h.n
    · by_cases e2 : b' = h.n
      · omega
      · rw [if_neg e2] at hd'
        rw [hadd b' e2, e1, hself]
        have := hlt b' d' hd' hlive
        omega
    · rw [if_neg e1] at hd
      by_cases e2 : b' = h.n
      · have hl : d.live := by cases d <;> first | trivial | exact hrw.elim
        rw [hadd b e1, e2, hself]
        have := hlt b d hd hl
        omega
      · rw [if_neg e2] at hd'
        rw [hadd b e1, hadd b' e2]
        exact r.sep b b' d d' hd hd' hne hrw hlive
  · refine ⟨ι.le_add _ _ _ _, rfl, rfl, rfl, by simp, fun k hk _ => heap_alloc_old w o k hk, fun b d hd hrw => ?_, by simp, by simp, fun b _ hb => Hp.get_push_ne _ _ _ (by omega)⟩
    rw [Hp.get_push] at hd
    split at hd
    · rename_i he; left; rw [he, hself]; exact Nat.le_refl _
    · rename_i he; exact .inr ⟨b, d, hd, hrw, (hadd b he).symm⟩
end Go.Fs
