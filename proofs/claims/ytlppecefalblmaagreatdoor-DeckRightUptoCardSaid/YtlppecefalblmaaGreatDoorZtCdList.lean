/- The traits of a set, in their order. -/
import Derived.Test.YtlppecefalblmaaGreatDoorFz05
import Derived.Test.YtlppecefalblmaaGreatDoorZtCdChk
namespace Go.Proofs.Cards
open Go Go.Fs
set_option linter.unusedSimpArgs false
set_option linter.unusedVariables false
variable {orc : Orc}
def bitT (t : Int) : Int := 2 ^ (t - 1).toNat
def hasT (s t : Int) : Bool := Go.bits .and .u16 s (bitT t) != 0
def RowC (M : Nat) (h : AH) (v : AV) (cs : List AV) : Prop :=
 ∃ b cap, M < b ∧ b < h.n ∧ (cap = .opn 1 ∨ cap = .exact cs.length) ∧ v = .slice (some (b, 0)) cs.length cap ∧ h.get b = some (.cells cs false) ∧ cs ≠ []
def RowN (M : Nat) (h : AH) (v : AV) (cs : List AV) : Prop := (cs = [] ∧ v = .slice none 0 (.exact 0)) ∨ RowC M h v cs
theorem RowC.push {M : Nat} {h : AH} {v : AV} {cs : List AV} (r : RowC M h v cs) (c : Blk) : RowC M (h.push c) v cs := by
 obtain ⟨b, cap, h1, h2, h3, h4, h5, h6⟩ := r
 exact ⟨b, cap, h1, by simp; omega, h3, h4, by rw [Hp.get_push_ne _ _ _ (by omega), h5], h6⟩
theorem RowN.push {M : Nat} {h : AH} {v : AV} {cs : List AV} (r : RowN M h v cs) (c : Blk) : RowN M (h.push c) v cs := r.imp id fun r => r.push c
def lst (s : Int) (n : Nat) : List Int := (List.map (fun (i : Nat) => (i : Int) + 1) (List.range n)).filter (fun t => hasT s t)
def ints (l : List Int) : List AV := l.map (.int .u8 ·)
structure TlI (s : Int) (M : Nat) (h0 : AH) (n : Nat) (tm : List AV) (H : AH) : Prop where
 len : tm.length = 17
 t0 : tm.getD 0 AV.undef = .int .u16 s
 st : ∃ (i : Nat) (v : AV), n = 8 - i ∧ i ≤ 8 ∧ tm.getD 4 AV.undef = .int .u8 ((i : Int) + 1) ∧ tm.getD 3 AV.undef = v ∧ RowN M H v (ints (lst s i))
 fr : ∀ b, b ≤ M → H.get b = h0.get b
 low : M ≤ H.low
 hn : h0.n ≤ H.n
theorem RowC.kp {M N : Nat} {h h1 : AH} {v : AV} {cs : List AV} (r : RowC M h v cs) (k : Ef.Kp N h h1) : RowC M h1 v cs := by
 obtain ⟨b, cap, h1', h2, h3, h4, h5, h6⟩ := r
 exact ⟨b, cap, h1', Nat.lt_of_lt_of_le h2 k.n, h3, h4, by rw [k.get b h2, h5], h6⟩
end Go.Proofs.Cards
