/- Cards in cells; rows of parts of a call's own. -/
import Derived.Test.YtlppecefalblmaaGreatDoorZtCdMem
import Derived.Test.YtlppecefalblmaaGreatDoorFz05
namespace Go.Proofs.Cards
open Go Go.Fs
set_option linter.unusedSimpArgs false
set_option linter.unusedVariables false
def zeroC : Crd := ⟨[], 0, 0, 0, 0, 0, 0, false⟩
def nilV : AV := .slice none 0 (.exact 0)
theorem cells_len (c : Crd) (v : AV) : (c.cells v).length = 9 := rfl
theorem cells_take (c : Crd) (v : AV) : (c.cells v).take 9 = c.cells v := rfl
theorem ov_9 (c d : Crd) (v w : AV) : Fs.over (c.cells v) 0 (d.cells w) = d.cells w := rfl
theorem ov_8 (c : Crd) (v w : AV) : Fs.over (c.cells v) 8 [w] = c.cells w := rfl
theorem flat_cut {ps : List Prt} {i : Nat} {p : Prt} (hp : ps[i]? = some p) : cut (ps.flatMap Prt.cells) (0 + i * 8) 8 = some p.cells := by
 rw [Nat.zero_add]
 induction ps generalizing i with
 | nil => cases hp
 | cons q l ih =>
   cases i with
   | zero =>
     simp at hp; subst hp
     unfold cut
     rw [if_pos (by simp [Prt.cells])]
     rfl
   | succ j =>
     have := ih (i := j) (by simpa using hp)
     unfold cut at this ⊢
     split at this
     · rename_i hle
       rw [if_pos (by rw [List.flatMap_cons, List.length_append, show q.cells.length = 8 from rfl]; omega), List.flatMap_cons, show (j + 1) * 8 = q.cells.length + j * 8 by rw [show q.cells.length = 8 from rfl]; omega, List.drop_append]
       rw [List.drop_eq_nil_of_le (by omega), List.nil_append, Nat.add_sub_cancel_left]
       exact this
     · cases this
def Own (N : Nat) (h : AH) (v : AV) (ps : List Prt) : Prop :=
 (ps = [] ∧ v = nilV) ∨ ∃ b, N ≤ b ∧ b < h.n ∧ v = .slice (some (b, 0)) ps.length (.opn 8) ∧ h.get b = some (.cells (ps.flatMap Prt.cells) false) ∧ ps ≠ []
end Go.Proofs.Cards
