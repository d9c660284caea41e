/- Shuffling, in plain words: where each number goes does not depend on what stands there. -/
import Derived.Test.YtnhkllnggpncfaaPoBase
namespace Go.Proofs.Po
open Go Go.Fs
set_option linter.unusedSimpArgs false

def shr (a : Int) (k : Int) : Int := a.fdiv (2 ^ (min k.toNat (IntKind.bits .u64)))
def nS (s : Int) : Int := IntKind.wrap .u64 (s + 11400714819323198485)
def n1 (z : Int) : Int := IntKind.wrap .u64 (bits .xor .u64 z (shr z 30) * 13787848793156543929)
def n2 (z : Int) : Int := IntKind.wrap .u64 (bits .xor .u64 z (shr z 27) * 10723151780598845931)
def nN (s : Int) : Int := bits .xor .u64 (n2 (n1 (nS s))) (shr (n2 (n1 (nS s))) 31)

theorem wrap_u64 (n : Int) : IntKind.wrap .u64 n = n % 18446744073709551616 := by
  have e3 : IntKind.bits .u64 = 64 := rfl
  have e4 : IntKind.signed .u64 = false := rfl
  have hp : (2 : Int) ^ 64 = 18446744073709551616 := by decide
  unfold IntKind.wrap
  simp only [e3, e4, Bool.false_and, hp, Bool.false_eq_true, if_false]
theorem nN_pos (s : Int) : 0 ≤ nN s := by
  have e : nN s = IntKind.wrap .u64 (((BitVec.ofInt 64 (n2 (n1 (nS s)))) ^^^ (BitVec.ofInt 64 (shr (n2 (n1 (nS s))) 31))).toNat : Int) := rfl
  rw [e, wrap_u64]
  omega

/-- The place that is swapped with place i. -/
def rN (s : Int) (i : Nat) : Nat := (nN s % ((i + 1 : Nat) : Int)).toNat
theorem rN_lt (s : Int) (i : Nat) : rN s i < i + 1 := by
  unfold rN
  have := Int.emod_lt_of_pos (nN s) (show (0 : Int) < ((i + 1 : Nat) : Int) by omega)
  have := Int.emod_nonneg (nN s) (show ((i + 1 : Nat) : Int) ≠ 0 by omega)
  omega
theorem rN_mod (s : Int) (i : Nat) : (nN s).tmod ((i + 1 : Nat) : Int) = (rN s i : Int) := by
  rw [Int.tmod_eq_emod_of_nonneg (nN_pos s)]
  unfold rN
  have := Int.emod_nonneg (nN s) (show ((i + 1 : Nat) : Int) ≠ 0 by omega)
  omega

def swp (l : List Int) (i r : Nat) : List Int := (l.set i (l.getD r 0)).set r (l.getD i 0)
def shuf : Nat → Int → List Int → List Int × Int
  | 0, s, l => (l, s)
  | i + 1, s, l => shuf i (nS s) (swp l (i + 1) (rN s (i + 1)))

theorem swp_length (l : List Int) (i r : Nat) : (swp l i r).length = l.length := by simp [swp]
theorem shuf_length : ∀ (i : Nat) (s : Int) (l : List Int), (shuf i s l).1.length = l.length
  | 0, _, _ => rfl
  | i + 1, s, l => by simp only [shuf]; rw [shuf_length i, swp_length]
theorem shuf_state : ∀ (i : Nat) (s : Int) (l m : List Int), (shuf i s l).2 = (shuf i s m).2
  | 0, _, _, _ => rfl
  | i + 1, s, l, m => by simp only [shuf]; exact shuf_state i _ _ _
theorem swp_map (f : Int → Int) {l : List Int} {i r : Nat} (hi : i < l.length) (hr : r < l.length) : swp (l.map f) i r = (swp l i r).map f := by
  have g : ∀ j, j < l.length → (l.map f).getD j 0 = f (l.getD j 0) := fun j hj => by
    simp [List.getD_eq_getElem?_getD, List.getElem?_eq_getElem hj]
  simp only [swp, g i hi, g r hr, List.map_set]
theorem shuf_map (f : Int → Int) : ∀ (i : Nat) (s : Int) {l : List Int}, (i = 0 ∨ i < l.length) → (shuf i s (l.map f)).1 = (shuf i s l).1.map f
  | 0, _, _, _ => rfl
  | i + 1, s, l, h => by
    have hi : i + 1 < l.length := by omega
    have hr := rN_lt s (i + 1)
    simp only [shuf]
    rw [swp_map f hi (by omega)]
    exact shuf_map f i _ (.inr (by rw [swp_length]; omega))
theorem swp_count {l : List Int} {i r : Nat} (hi : i < l.length) (hr : r < l.length) (x : Int) : (swp l i r).count x = l.count x := by
  have gi : l.getD i 0 = l[i] := by simp [List.getD_eq_getElem?_getD, List.getElem?_eq_getElem hi]
  have gr : l.getD r 0 = l[r] := by simp [List.getD_eq_getElem?_getD, List.getElem?_eq_getElem hr]
  have key : ∀ (m : List Int) (j : Nat) (hj : j < m.length) (y : Int), (m.set j y).count x + (if m[j] = x then 1 else 0) = m.count x + (if y = x then 1 else 0) := by
    intro m j hj y
    have hm : m = m.take j ++ m[j] :: m.drop (j + 1) := by rw [List.getElem_cons_drop, List.take_append_drop]
    have hs : m.set j y = m.take j ++ y :: m.drop (j + 1) := by rw [List.set_eq_take_append_cons_drop, if_pos hj]
    rw [hs]
    conv => rhs; rw [hm]
    simp only [List.count_append, List.count_cons, beq_iff_eq]
    omega
  unfold swp
  rw [gi, gr]
  have k1 := key l i hi l[r]
  have k2 := key (l.set i l[r]) r (by simpa using hr) l[i]
  have e : (l.set i l[r])[r]'(by simpa using hr) = l[r] := by
    rw [List.getElem_set]
    split
    · rfl
    · rfl
  rw [e] at k2
  omega
theorem shuf_count : ∀ (i : Nat) (s : Int) {l : List Int}, (i = 0 ∨ i < l.length) → ∀ x, (shuf i s l).1.count x = l.count x
  | 0, _, _, _, _ => rfl
  | i + 1, s, l, h, x => by
    have hi : i + 1 < l.length := by omega
    have hr := rN_lt s (i + 1)
    simp only [shuf]
    rw [shuf_count i _ (.inr (by rw [swp_length]; omega)) x, swp_count hi (by omega)]

/-- The whole of a list is shuffled. -/
def shuffled (s : Int) (l : List Int) : List Int := (shuf (l.length - 1) s l).1
def shuffledS (s : Int) (n : Nat) : Int := (shuf (n - 1) s []).2
theorem shuffled_length (s : Int) (l : List Int) : (shuffled s l).length = l.length := shuf_length _ _ _
theorem shuffled_count (s : Int) (l : List Int) (x : Int) : (shuffled s l).count x = l.count x := shuf_count _ _ (by omega) x
theorem shuffled_map (f : Int → Int) (s : Int) (l : List Int) : shuffled s (l.map f) = (shuffled s l).map f := by
  unfold shuffled
  rw [List.length_map]
  exact shuf_map f _ _ (by omega)
end Go.Proofs.Po
