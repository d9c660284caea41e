/- The law 'there and back' of a part, by its walk. -/
import Derived.Test.YtjmhjipacmlojaaGreatDoorFz05
import Derived.Test.YtjmhjipacmlojaaGreatDoorZcEfPlain
namespace Go.Proofs.Ef
open Go Go.Fs
set_option linter.unusedSimpArgs false
set_option linter.unusedVariables false
variable {orc : Orc}
section
variable (pieces : List UInt8 → List (List UInt8)) (atoiV : List UInt8 → Int) (sf : List UInt8 → Int × Bool)
def prs (s : List UInt8) : List AV × Int :=
 if s.length ≤ 80 ∧ 3 ≤ (pieces s).length then
  if okP atoiV sf (rV (pieces s)) (rM (pieces s)) (rW (pieces s)) ((pieces s).drop 3) s = true then (partR atoiV sf (rV (pieces s)) (rM (pieces s)) (rW (pieces s)) ((pieces s).drop 3), 0) else (zeroP, 150)
 else (zeroP, if s.length ≤ 80 then 150 else 3)
end
theorem parse_spec {h0 : AH} {pieces : List UInt8 → List (List UInt8)} {atoiV : List UInt8 → Int} {sf : List UInt8 → Int × Bool} (ho : ∀ f, f ∈ [20, 52, 53, 57, 23, 51, 24, 54, 61, 62, 63, 64, 65, 66, 67, 68, 106, 107, 108] → orc f = none)
    (ht : Trims orc) (hF : Flds orc h0) (hJ : Joins orc) (hT : Told orc h0) (hP : PTold orc h0 pieces atoiV sf) (s : List UInt8) {h : AH} (hg : Grown h0 h) :
    acall orc T 20 [.str s] h = some (.tuple [.agg (prs pieces atoiV sf s).1, .int .i64 (prs pieces atoiV sf s).2], h) := by
 by_cases h1 : s.length ≤ 80
 case neg =>
  rw [parse_long (ho _ (by simp)) s h1]
  simp only [prs, h1, false_and, if_false]
 case pos =>
 by_cases h2 : 3 ≤ (pieces s).length
 case neg =>
  rw [parse_few (ho _ (by simp)) hP s h1 (by omega) hg]
  simp only [prs, h1, h2, and_false, if_false, if_true]
 case pos =>
  rw [parse_read ho ht hF hJ hT hP s h1 _ rfl h2 hg]
  simp only [prs, h1, h2, and_self, if_true]
  cases okP atoiV sf (rV (pieces s)) (rM (pieces s)) (rW (pieces s)) ((pieces s).drop 3) s <;> simp
theorem prs_cases (pieces : List UInt8 → List (List UInt8)) (atoiV : List UInt8 → Int) (sf : List UInt8 → Int × Bool) (x : List UInt8) :
    (∃ w v m c s t k nm, chk w v m c s t k nm = 0 ∧ txtP w v m c s t k nm = x ∧ prs pieces atoiV sf x = (part w v m c s t k nm, 0)) ∨ ∃ e, e ≠ 0 ∧ prs pieces atoiV sf x = (zeroP, e) := by
 unfold prs
 split
 · split
   · rename_i hk
     have hk := of_decide_eq_true hk
     exact .inl ⟨_, _, _, _, _, _, _, _, hk.1, hk.2, rfl⟩
   · exact .inr ⟨_, by decide, rfl⟩
 · refine .inr ⟨_, ?_, rfl⟩
   split <;> decide
theorem prs_back {pieces : List UInt8 → List (List UInt8)} {atoiV : List UInt8 → Int} {sf : List UInt8 → Int × Bool} (A : RTold atoiV sf) (hp : ∀ W : List (List UInt8), W ≠ [] → W.all noB = true → pieces (Lib.join W [32]) = W) {w v m c s t k : Int} {nm : List UInt8} (h : chk w v m c s t k nm = 0) :
    prs pieces atoiV sf (txtP w v m c s t k nm) = (part w v m c s t k nm, 0) := by
 obtain ⟨R, e1, e2, e3, e4, e5, e6⟩ := back_text A hp h
 unfold prs
 have hR : (pieces (txtP w v m c s t k nm)).drop 3 = R := by rw [e1]; rfl
 rw [if_pos ⟨txtP_len80 _ _ _ _ _ _ _ _, by rw [e1]; simp⟩, e2, e3, e4, hR, if_pos e5, e6]
theorem part_0 (w v m c s t k : Int) (nm : List UInt8) : (part w v m c s t k nm)[0]? = some (.int .u8 w) := rfl
theorem part_3 (w v m c s t k : Int) (nm : List UInt8) : (part w v m c s t k nm)[3]? = some (.int .i64 c) := rfl
theorem part_4 (w v m c s t k : Int) (nm : List UInt8) : (part w v m c s t k nm)[4]? = some (.int .u8 s) := rfl
theorem part_5 (w v m c s t k : Int) (nm : List UInt8) : (part w v m c s t k nm)[5]? = some (.int .u8 t) := rfl
theorem part_6 (w v m c s t k : Int) (nm : List UInt8) : (part w v m c s t k nm)[6]? = some (.int .u8 k) := rfl
theorem part_7 (w v m c s t k : Int) (nm : List UInt8) : (part w v m c s t k nm)[7]? = some (.str nm) := rfl
theorem over_e (w v m c s t k : Int) (nm : List UInt8) (a b d e f g i j : AV) : Fs.over [a, b, d, e, f, g, i, j] 0 (part w v m c s t k nm) = part w v m c s t k nm := rfl
theorem box_part (w v m c s t k : Int) (nm : List UInt8) (h : AH) : boxV (.agg (part w v m c s t k nm)) h = some (.ptr (some (h.n, 0)), h.push (.cells (part w v m c s t k nm) false)) := boxV_agg _ rfl
theorem dec_self (x : List UInt8) : decide (x = x) = true := by simp
end Go.Proofs.Ef
