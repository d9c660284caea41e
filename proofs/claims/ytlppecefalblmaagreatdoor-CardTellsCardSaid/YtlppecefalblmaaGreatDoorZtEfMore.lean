/- Small facts of texts, heaps and bytes. -/
import Derived.Test.YtlppecefalblmaaGreatDoorZtEfPrint
namespace Go.Proofs.Ef
open Go Go.Fs
set_option linter.unusedSimpArgs false
set_option linter.unusedVariables false
theorem wrap_u8a {n : Nat} (h : n < 200) : IntKind.wrap .u8 ((n : Int) + 1 + 1) = ((n + 1 : Nat) : Int) + 1 := by
 have e3 : IntKind.bits .u8 = 8 := rfl
 have e4 : IntKind.signed .u8 = false := rfl
 have hp : (2 : Int) ^ 8 = 256 := by decide
 unfold IntKind.wrap
 simp only [e3, e4, Bool.false_and, hp, Bool.false_eq_true, if_false]
 omega
theorem kp_settle2 {N : Nat} {h h' : AH} {v : AV} (g1 : h.n ≤ h'.n) (g2 : ∀ b, b < h.n → h'.get b = h.get b) (g3 : N ≤ h'.low) : Kp N h (Fs.settle h h' v).2 := by
 unfold Fs.settle
 split
 · exact ⟨Nat.le_refl _, fun _ _ => rfl, fun _ h => h⟩
 · exact ⟨by simpa using g1, fun b hb => by simpa using g2 b hb, fun h1 h2 => by simp; omega⟩
theorem sN_len5 (s : Int) : (sN s).length ≤ 5 := getD_len (by decide) _
theorem tN_len5 (s : Int) : (tN s).length ≤ 5 := getD_len (by decide) _
theorem T5_len80 (i j l : Nat) (v m c s t k : Int) (nm : List UInt8) (h : uN v = true → nm.length ≤ 20) : (T5 i j l v m c s t k nm).length ≤ 80 := by
 have h0 := T0_len i j l
 have h1 := optT_len (uC v) (dig c) fun _ => dig_len c
 have h2 := optT_len (uS v m) (sN s) fun _ => sN_len5 s
 have h3 := optT_len (uT v m) (tN t) fun _ => tN_len5 t
 have h4 := optT_len (uM v) (dig k) fun _ => dig_len k
 have h5 := optT_len (uN v) nm h
 unfold T5
 simp only [List.length_append]
 omega
theorem txtP_len80 (w v m c s t k : Int) (nm : List UInt8) : (txtP w v m c s t k nm).length ≤ 80 := by
 unfold txtP
 split
 · rename_i h
   exact T5_len80 _ _ _ _ _ _ _ _ _ _ (chk_zero h).2.2.2.2.2
 · simp
end Go.Proofs.Ef
