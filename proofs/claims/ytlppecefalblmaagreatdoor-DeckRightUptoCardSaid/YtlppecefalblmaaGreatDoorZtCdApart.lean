/- ApartParts, over rows whose room is known: each is written over, none is met twice. -/
import Derived.Test.YtlppecefalblmaaGreatDoorFz05
import Derived.Test.YtlppecefalblmaaGreatDoorFz05
import Derived.Test.YtlppecefalblmaaGreatDoorZtCdMem
namespace Go.Proofs.Cards
open Go Go.Fs
set_option linter.unusedSimpArgs false
set_option linter.unusedVariables false
variable {orc : Orc}
def mkI (i k : Int) : Int := IntKind.wrap .i64 (IntKind.wrap .i64 (IntKind.wrap .i64 (-1000003 * i) - k) - 5)
def mkP (i k : Int) : List AV := [.int .u8 0, .int .u8 0, .int .u8 0, .int .i64 (mkI i k), .int .u8 0, .int .u8 0, .int .u8 0, .str []]
theorem length_over {cs ys : List AV} {o : Nat} (h : o + ys.length ≤ cs.length) : (Fs.over cs o ys).length = cs.length := by
 simp only [Fs.over, List.length_append, List.length_take, List.length_drop]; omega
def XtA (h h1 : AH) : Prop := h.n ≤ h1.n ∧ ∀ b, b < h.n → h1.get b = h.get b
def fullV : AV → AV
 | .slice a _ (.exact c) => .slice a c (.exact c)
 | v => v
def FreshC (N : Nat) (h : AH) (v : AV) (xs : List AV) : Prop :=
 (xs = [] ∧ v = .slice none 0 (.exact 0)) ∨ (xs ≠ [] ∧ ∃ b, N ≤ b ∧ b < h.n ∧ v = .slice (some (b, 0)) xs.length (.opn 1) ∧ h.get b = some (.cells xs false))
theorem FreshC.len {N : Nat} {h : AH} {v : AV} {xs : List AV} (hf : FreshC N h v xs) (hx : AH) : lenV v hx = some (.int .i64 (xs.length : Int), hx) := by
 rcases hf with ⟨rfl, rfl⟩ | ⟨_, b, _, _, rfl, _⟩ <;> rfl
theorem FreshC.at {N : Nat} {h : AH} {v : AV} {xs : List AV} (hf : FreshC N h v xs) {i : Nat} {x : AV} (hx : xs[i]? = some x) :
    ∃ b, (∀ hy : AH, iaddrV 1 v (.int .i64 (i : Int)) hy = some (.ptr (some (b, i)), hy)) ∧ h.get b = some (.cells xs false) ∧ N ≤ b := by
 have hlt := (List.getElem?_eq_some_iff.1 hx).1
 rcases hf with ⟨rfl, rfl⟩ | ⟨_, b, h1, _, rfl, h4⟩
 · simp at hlt
 · exact ⟨b, fun hy => by rw [iaddrV_nat hlt, Nat.mul_one, Nat.zero_add], h4, h1⟩
theorem FreshC.keep {N : Nat} {h h' : AH} {v : AV} {xs : List AV} (hf : FreshC N h v xs) (hn : h.n ≤ h'.n) (hg : ∀ b, N ≤ b → b < h.n → h'.get b = h.get b) : FreshC N h' v xs := by
 rcases hf with h1 | ⟨h1, b, h2, h3, h4, h5⟩
 · exact .inl h1
 · exact .inr ⟨h1, b, h2, Nat.lt_of_lt_of_le h3 hn, h4, by rw [hg b h2 h3, h5]⟩
def RowF (N : Nat) (h : AH) (ob : Option Nat) (x : AV) : Prop :=
 (ob = none ∧ x = .slice none 0 (.exact 0)) ∨
 ∃ b c cs, ob = some b ∧ x = .slice (some (b, 0)) c (.exact c) ∧ h.get b = some (.cells cs false) ∧ cs.length = c * 8 ∧ c ≤ maxLen ∧ b < N
structure InvA (h0 : AH) (bL m : Nat) (cap : Cap) (L : List AV) (n : Nat) (tm : List AV) (h : AH) : Prop where
 len : tm.length = 78
 t0 : tm.getD 0 AV.undef = .slice (some (bL, 0)) m cap
 st : ∃ i : Nat, n = m - i ∧ i ≤ m ∧ tm.getD 4 AV.undef = .int .i64 (i : Int) ∧ FreshC h0.n h (tm.getD 3 AV.undef) ((L.take i).map fullV)
 ext : XtA h0 h
def Marked (h : AH) (obs : List (Option Nat)) (j k : Nat) : Prop :=
 ∀ b cs, obs[j]? = some (some b) → h.get b = some (.cells cs false) → ∀ k', k' < k → k' * 8 + 8 ≤ cs.length → cut cs (k' * 8) 8 = some (mkP (j : Int) (k' : Int))
def MarkedAll (h : AH) (obs : List (Option Nat)) (j : Nat) : Prop := ∀ k, Marked h obs j k
structure Com (h0 : AH) (obs : List (Option Nat)) (R : List AV) (w : AV) (tm : List AV) (h : AH) : Prop where
 len : tm.length = 78
 t3 : tm.getD 3 AV.undef = w
 rows : ∀ (j : Nat) (x : AV), R[j]? = some x → ∃ ob, obs[j]? = some ob ∧ RowF h0.n h ob x
 wr : FreshC h0.n h w R
 keep : ∀ b, b < h0.n → b ∉ obs.filterMap id → h.get b = h0.get b
 nn : h0.n ≤ h.n
structure InvB (h0 : AH) (obs : List (Option Nat)) (R : List AV) (w : AV) (n : Nat) (tm : List AV) (h : AH) : Prop where
 com : Com h0 obs R w tm h
 st : ∃ i : Nat, n = R.length - i ∧ i ≤ R.length ∧ tm.getD 5 AV.undef = .int .i64 (i : Int) ∧ ∀ j, j < i → MarkedAll h obs j
structure InvB2 (h0 : AH) (obs : List (Option Nat)) (R : List AV) (w : AV) (i c : Nat) (n : Nat) (tm : List AV) (h : AH) : Prop where
 com : Com h0 obs R w tm h
 t5 : tm.getD 5 AV.undef = .int .i64 (i : Int)
 done : ∀ j, j < i → MarkedAll h obs j
 st : ∃ k : Nat, n = c - k ∧ k ≤ c ∧ tm.getD 6 AV.undef = .int .i64 (k : Int) ∧ Marked h obs i k
structure InvD3 (h0 hF : AH) (obs : List (Option Nat)) (R : List AV) (w : AV) (n : Nat) (tm : List AV) (h : AH) : Prop where
 heap : h = hF
 com : Com h0 obs R w tm h
 st : ∃ i : Nat, n = R.length - i ∧ i ≤ R.length ∧ tm.getD 7 AV.undef = .int .i64 (i : Int)
structure InvE3 (h0 hF : AH) (obs : List (Option Nat)) (R : List AV) (w : AV) (i c : Nat) (n : Nat) (tm : List AV) (h : AH) : Prop where
 heap : h = hF
 com : Com h0 obs R w tm h
 t7 : tm.getD 7 AV.undef = .int .i64 (i : Int)
 st : ∃ k : Nat, n = c - k ∧ k ≤ c ∧ tm.getD 8 AV.undef = .int .i64 (k : Int)
end Go.Proofs.Cards
