/- card.Parse, told whole: what a text is read as. -/
import Derived.Test.YtjmhjipacmlojaaGreatDoorFz05
import Derived.Test.YtjmhjipacmlojaaGreatDoorFz06
import Derived.Test.YtjmhjipacmlojaaGreatDoorZcCdParse
namespace Go.Proofs.Cards
open Go Go.Fs
set_option linter.unusedSimpArgs false
set_option linter.unusedVariables false
variable {orc : Orc}
section
variable (pieces : List UInt8 → List (List UInt8)) (atoiV : List UInt8 → Int) (sf : List UInt8 → Int × Bool)
theorem prs_prt (x : List UInt8) : ∃ pe : Prt × Int, Ef.prs pieces atoiV sf x = (pe.1.cells, pe.2) ∧ (pe.2 = 0 → pe.1.chk = 0 ∧ pe.1.txt = x) := by
 rcases Ef.prs_cases pieces atoiV sf x with ⟨w, v, m, c, s, t, k, nm, h1, h2, h3⟩ | ⟨e, h1, h2⟩
 · exact ⟨(⟨w, v, m, c, s, t, k, nm⟩, 0), h3, fun _ => ⟨h1, h2⟩⟩
 · exact ⟨(⟨0, 0, 0, 0, 0, 0, 0, []⟩, e), h2, fun h => absurd h h1⟩
noncomputable def prsP (x : List UInt8) : Prt × Int := Classical.choose (prs_prt pieces atoiV sf x)
theorem prsP_eq (x : List UInt8) : Ef.prs pieces atoiV sf x = ((prsP pieces atoiV sf x).1.cells, (prsP pieces atoiV sf x).2) := (Classical.choose_spec (prs_prt pieces atoiV sf x)).1
theorem prsP_ok (x : List UInt8) : (prsP pieces atoiV sf x).2 = 0 → (prsP pieces atoiV sf x).1.chk = 0 ∧ (prsP pieces atoiV sf x).1.txt = x := (Classical.choose_spec (prs_prt pieces atoiV sf x)).2
abbrev sepT : List UInt8 := [32, 124, 32]
def headCard (s : List UInt8) : Crd := if 4 ≤ (Lib.split (cutA s sepT) [32]).length then headC atoiV sf (Lib.split (cutA s sepT) [32]) else zeroC
noncomputable def finOf (s : List UInt8) : Bool × List Prt := goP (prsP pieces atoiV sf) 6 (decide (4 ≤ (Lib.split (cutA s sepT) [32]).length)) (cutM s sepT) (cutB s sepT) []
def GoodC (s : List UInt8) : Prop := s.length ≤ 512 ∧ (finOf pieces atoiV sf s).1 = true ∧ chkC (headCard atoiV sf s) (finOf pieces atoiV sf s).2 = 0 ∧ txtC (headCard atoiV sf s) (finOf pieces atoiV sf s).2 = s
end
theorem cells_inj {p q : Prt} (h : p.cells = q.cells) : p = q := by
 cases p; cases q
 simp [Prt.cells] at h
 simp [h]
theorem prsP_back {pieces : List UInt8 → List (List UInt8)} {atoiV : List UInt8 → Int} {sf : List UInt8 → Int × Bool} (A : Ef.RTold atoiV sf) (hp : ∀ W : List (List UInt8), W ≠ [] → W.all Ef.noB = true → pieces (Lib.join W [32]) = W) {p : Prt} (h : p.chk = 0) : prsP pieces atoiV sf p.txt = (p, 0) := by
 have e := Ef.prs_back A hp h
 have e2 := prsP_eq pieces atoiV sf p.txt
 rw [show Ef.prs pieces atoiV sf p.txt = _ from e] at e2
 obtain ⟨h1, h2⟩ := Prod.mk.inj e2
 exact Prod.ext (cells_inj (h1.symm.trans (by rfl))) h2.symm
theorem cparse_own (M : Nat) {h0 : AH} {pieces : List UInt8 → List (List UInt8)} {atoiV : List UInt8 → Int} {sf : List UInt8 → Int × Bool}
    (hno : orc 25 = none) (ho : ∀ g, g ∈ [25, 69, 110] → orc g = none)
    (hrd : ∀ f, f ∈ [70, 31, 69, 110, 111, 141, 112, 116, 79, 57] → orc f = none)
    (hpr : ∀ f, f ∈ [10, 9, 29, 74, 75, 30, 31, 76, 33, 78, 116, 79, 23, 51, 24, 54, 61, 62, 63, 64, 65, 66, 67, 68, 106, 107, 108] → orc f = none)
    (hep : ∀ f, f ∈ [20, 52, 53, 57, 23, 51, 24, 54, 61, 62, 63, 64, 65, 66, 67, 68, 106, 107, 108] → orc f = none)
    (ht : Ef.Trims orc) (hF : Ef.Flds orc h0) (hJ : Ef.Joins orc) (hT : Ef.Told orc h0) (hP : Ef.PTold orc h0 pieces atoiV sf) (hC : CTold orc h0 atoiV sf) (s : List UInt8) {h : AH} (hg : Grown h0 h) :
    ∃ v1 h1, acall orc T 25 [.str s] h = some (v1, h1) ∧ Ef.Kp M h h1 ∧
     ((GoodC pieces atoiV sf s ∧ ∃ v, v1 = .tuple [.agg ((headCard atoiV sf s).cells v), .int .i64 0] ∧ Parts h1 v (finOf pieces atoiV sf s).2 ∧ Own h.n h1 v (finOf pieces atoiV sf s).2) ∨
      (¬ GoodC pieces atoiV sf s ∧ v1 = .tuple [.agg (zeroC.cells nilV), .int .i64 (if s.length ≤ 512 then 160 else 3)])) := by
 by_cases hs : s.length ≤ 512
 case neg =>
  refine ⟨_, h, parse_long hno s hs h, ?_, .inr ⟨fun hG => hs hG.1, by rw [if_neg hs]⟩⟩
  have := Ef.kp_settle (N := M) (h := h) (h' := h.withLow h.n) (v := .str []) (Nat.le_refl _) (fun _ _ => rfl) (Nat.le_refl _)
  rwa [settle_keep (Nat.le_refl _) rfl] at this
 case pos =>
 have hsp := Plain.split_len (cutA s [32, 124, 32])
 have hla := cutA_len s [32, 124, 32]
 obtain ⟨v1, h1, e1, hr, hk⟩ := round_spec M (orc := orc) (f := prsP pieces atoiV sf) ho hC
  (fun x hh hgh => by rw [Ef.parse_spec (orc := orc) hep ht hF hJ hT hP x hgh, prsP_eq])
  (fun L b hh hl hL hgh hb hbn => by
    by_cases h4 : 4 ≤ L.length
    · rw [if_pos h4, decide_eq_true h4]; exact read_spec (orc := orc) hrd hC hT L b hl hL h4 hgh hb hbn
    · rw [if_neg h4, decide_eq_false h4]; exact read_few (hrd _ (by simp)) L b (by omega) hh _)
  (fun c v ps hh hp hgh => cprint_spec (orc := orc) hpr (hpr _ (by simp)) ht hF hJ hT c v ps hp hgh)
  s hs hg (headCard atoiV sf s) _ rfl rfl (by omega) (fun x hx => by have := hsp.2 x hx; omega) (finOf pieces atoiV sf s) rfl
 refine ⟨v1, h1, e1, hk, ?_⟩
 by_cases hG : GoodC pieces atoiV sf s
 · rw [if_pos ⟨hG.2.1, hG.2.2.1, hG.2.2.2⟩] at hr
   exact .inl ⟨hG, hr⟩
 · rw [if_neg (fun h => hG ⟨hs, h.1, h.2.1, h.2.2⟩)] at hr
   exact .inr ⟨hG, by rw [if_pos hs]; exact hr⟩
end Go.Proofs.Cards
