/- A finite map from numbers to things, kept as a tree: what the abstract heap is made of. -/
import Derived.Laws.AppendOwn
namespace Go.Fs

/-- A tree whose place k holds a thing: 0 is here, odd numbers lie left, even ones right. -/
inductive Tr (α : Type) where
  | leaf
  | node (v : Option α) (l r : Tr α)

def Tr.get {α : Type} : Tr α → Nat → Option α
  | .leaf, _ => none
  | .node v l r, k => if k = 0 then v else if k % 2 = 1 then l.get (k / 2) else r.get (k / 2 - 1)

def Tr.setF {α : Type} : Nat → Tr α → Nat → α → Tr α
  | 0, t, _, _ => t
  | f + 1, .leaf, k, x => if k = 0 then .node (some x) .leaf .leaf else if k % 2 = 1 then .node none (Tr.setF f .leaf (k / 2) x) .leaf else .node none .leaf (Tr.setF f .leaf (k / 2 - 1) x)
  | f + 1, .node v l r, k, x => if k = 0 then .node (some x) l r else if k % 2 = 1 then .node v (Tr.setF f l (k / 2) x) r else .node v l (Tr.setF f r (k / 2 - 1) x)

theorem Tr.get_setF {α : Type} (x : α) : ∀ (f : Nat) (t : Tr α) (k j : Nat), k < f → (Tr.setF f t k x).get j = if j = k then some x else t.get j
  | 0, _, _, _, h => by omega
  | f + 1, .leaf, k, j, h => by
    unfold Tr.setF
    by_cases h0 : k = 0
    · subst h0; simp only [if_true]
      unfold Tr.get
      by_cases hj : j = 0
      · simp [hj]
      · simp only [hj, if_false]; split <;> rfl
    · simp only [h0, if_false]
      by_cases h1 : k % 2 = 1
      · simp only [h1, if_true]
        rw [show (Tr.node none (Tr.setF f .leaf (k / 2) x) .leaf).get j = if j = 0 then none else if j % 2 = 1 then (Tr.setF f .leaf (k / 2) x).get (j / 2) else Tr.leaf.get (j / 2 - 1) from rfl]
        rw [Tr.get_setF x f .leaf (k / 2) (j / 2) (by omega)]
        by_cases hj : j = 0
        · subst hj; simp [Ne.symm h0, Tr.get]
        · by_cases hj1 : j % 2 = 1
          · simp only [hj, hj1, if_true, if_false]
            by_cases e : j = k
            · subst e; simp
            · simp only [e, if_false]; rw [if_neg (by omega)]; simp [Tr.get]
          · simp only [hj, hj1, if_false]; rw [if_neg (by omega)]; simp [Tr.get]
      · simp only [h1, if_false]
        rw [show (Tr.node none .leaf (Tr.setF f .leaf (k / 2 - 1) x)).get j = if j = 0 then none else if j % 2 = 1 then Tr.leaf.get (j / 2) else (Tr.setF f .leaf (k / 2 - 1) x).get (j / 2 - 1) from rfl]
        rw [Tr.get_setF x f .leaf (k / 2 - 1) (j / 2 - 1) (by omega)]
        by_cases hj : j = 0
        · subst hj; simp [Ne.symm h0, Tr.get]
        · by_cases hj1 : j % 2 = 1
          · simp only [hj, hj1, if_true, if_false]; rw [if_neg (by omega)]; simp [Tr.get]
          · simp only [hj, hj1, if_false]
            by_cases e : j = k
            · subst e; simp
            · simp only [e, if_false]; rw [if_neg (by omega)]; simp [Tr.get]
  | f + 1, .node v l r, k, j, h => by
    unfold Tr.setF
    by_cases h0 : k = 0
    · subst h0; simp only [if_true]
      by_cases hj : j = 0
      · simp [hj, Tr.get]
      · simp [Tr.get, hj]
    · simp only [h0, if_false]
      by_cases h1 : k % 2 = 1
      · simp only [h1, if_true]
        rw [show (Tr.node v (Tr.setF f l (k / 2) x) r).get j = if j = 0 then v else if j % 2 = 1 then (Tr.setF f l (k / 2) x).get (j / 2) else r.get (j / 2 - 1) from rfl]
        rw [Tr.get_setF x f l (k / 2) (j / 2) (by omega)]
        by_cases hj : j = 0
        · subst hj; simp [Ne.symm h0, Tr.get]
        · by_cases hj1 : j % 2 = 1
          · simp only [hj, hj1, if_true, if_false]
            by_cases e : j = k
            · subst e; simp
            · simp only [e, if_false]; rw [if_neg (by omega)]; simp [Tr.get, hj, hj1]
          · simp only [hj, hj1, if_false]; rw [if_neg (by omega)]; simp [Tr.get, hj, hj1]
      · simp only [h1, if_false]
        rw [show (Tr.node v l (Tr.setF f r (k / 2 - 1) x)).get j = if j = 0 then v else if j % 2 = 1 then l.get (j / 2) else (Tr.setF f r (k / 2 - 1) x).get (j / 2 - 1) from rfl]
        rw [Tr.get_setF x f r (k / 2 - 1) (j / 2 - 1) (by omega)]
        by_cases hj : j = 0
        · subst hj; simp [Ne.symm h0, Tr.get]
        · by_cases hj1 : j % 2 = 1
          · simp only [hj, hj1, if_true, if_false]; rw [if_neg (by omega)]; simp [Tr.get, hj, hj1]
          · simp only [hj, hj1, if_false]
            by_cases e : j = k
            · subst e; simp
            · simp only [e, if_false]; rw [if_neg (by omega)]; simp [Tr.get, hj, hj1]

/-- A heap: how many blocks were made, what they hold, and the least number that was written over. -/
structure Hp (α : Type) where
  n : Nat
  low : Nat
  t : Tr α

def Hp.get {α : Type} (h : Hp α) (k : Nat) : Option α := h.t.get k
def Hp.set {α : Type} (h : Hp α) (k : Nat) (x : α) : Hp α := ⟨h.n, min h.low k, Tr.setF (k + 1) h.t k x⟩
/-- A new block: its number is h.n. -/
def Hp.push {α : Type} (h : Hp α) (x : α) : Hp α := ⟨h.n + 1, h.low, Tr.setF (h.n + 1) h.t h.n x⟩
def Hp.withLow {α : Type} (h : Hp α) (l : Nat) : Hp α := ⟨h.n, l, h.t⟩

section
variable {α : Type} (h : Hp α) (k j l : Nat) (x y : α)
@[simp] theorem Hp.n_set : (h.set k x).n = h.n := rfl
@[simp] theorem Hp.n_push : (h.push x).n = h.n + 1 := rfl
@[simp] theorem Hp.n_withLow : (h.withLow l).n = h.n := rfl
@[simp] theorem Hp.low_set : (h.set k x).low = min h.low k := rfl
@[simp] theorem Hp.low_push : (h.push x).low = h.low := rfl
@[simp] theorem Hp.low_withLow : (h.withLow l).low = l := rfl
@[simp] theorem Hp.get_withLow : (h.withLow l).get k = h.get k := rfl
@[simp] theorem Hp.withLow_withLow : (h.withLow l).withLow k = h.withLow k := rfl
@[simp] theorem Hp.withLow_low : h.withLow h.low = h := rfl
theorem Hp.get_set : (h.set k x).get j = if j = k then some x else h.get j := Tr.get_setF x (k + 1) h.t k j (by omega)
theorem Hp.get_push : (h.push x).get j = if j = h.n then some x else h.get j := Tr.get_setF x (h.n + 1) h.t h.n j (by omega)
@[simp] theorem Hp.get_set_self : (h.set k x).get k = some x := by rw [Hp.get_set]; simp
theorem Hp.get_set_ne (hn : j ≠ k) : (h.set k x).get j = h.get j := by rw [Hp.get_set]; simp [hn]
@[simp] theorem Hp.get_push_self : (h.push x).get h.n = some x := by rw [Hp.get_push]; simp
theorem Hp.get_push_ne (hn : j ≠ h.n) : (h.push x).get j = h.get j := by rw [Hp.get_push]; simp [hn]
end
end Go.Fs
