/- What the reference reads of a card's own text is the card. -/
import Derived.Test.YtjmhjipacmlojaaGreatDoorFz05
import Derived.Test.YtjmhjipacmlojaaGreatDoorZcCdHead
import Derived.Test.YtjmhjipacmlojaaGreatDoorZcCdPlain
namespace Go.Proofs.Cards
open Go Go.Fs
set_option linter.unusedSimpArgs false
set_option linter.unusedVariables false
theorem pcsR_bar : ∀ (x cur r : List UInt8), noBar x = true → pcsR sepT (x ++ 32 :: 124 :: 32 :: r) 0 cur = (cur ++ x) :: pcsR sepT r 0 []
 | [], cur, r, _ => by
   rw [List.nil_append, pcsR, if_pos (by simp [sepT, List.isPrefixOf]), List.append_nil]
   rw [show sepT.length - 1 = 2 from rfl, pcsR, pcsR]
 | [b], cur, r, h => by
   have := pcsR_bar [] (cur ++ [b]) r rfl
   rw [List.nil_append] at this
   rw [List.singleton_append, pcsR, if_neg (by simp [sepT, List.isPrefixOf]), this]
   simp
 | b :: a :: x, cur, r, h => by
   have ha : a ≠ 124 := by
    simp only [noBar, List.all_cons, Bool.and_eq_true, bne_iff_ne] at h
    exact h.2.1
   rw [List.cons_append, List.cons_append, pcsR, if_neg (by simp [sepT, List.isPrefixOf]; intro _ e; exact absurd e.symm ha)]
   have := pcsR_bar (a :: x) (cur ++ [b]) r (by simp only [noBar, List.all_cons, Bool.and_eq_true] at h ⊢; exact h.2)
   rw [List.cons_append] at this
   rw [this]
   simp
theorem pcsR_last : ∀ (x cur : List UInt8), noBar x = true → pcsR sepT x 0 cur = [cur ++ x]
 | [], cur, _ => by rw [pcsR, List.append_nil]
 | [b], cur, h => by rw [pcsR, if_neg (by simp [sepT, List.isPrefixOf]), pcsR]
 | b :: a :: x, cur, h => by
   have ha : a ≠ 124 := by
    simp only [noBar, List.all_cons, Bool.and_eq_true, bne_iff_ne] at h
    exact h.2.1
   rw [pcsR, if_neg (by simp [sepT, List.isPrefixOf]; intro _ e; exact absurd e.symm ha)]
   rw [pcsR_last (a :: x) (cur ++ [b]) (by simp only [noBar, List.all_cons, Bool.and_eq_true] at h ⊢; exact h.2)]
   simp
theorem pcsR_tail : ∀ (ps : List Prt), (∀ p ∈ ps, noBar p.txt = true) → ps ≠ [] → pcsR sepT (tailT ps) 0 [] = ps.map Prt.txt
 | [p], h, _ => by rw [tailT, pcsR_last _ _ (h p (by simp))]; rfl
 | p :: q :: r, h, _ => by
   rw [tailT]
   rw [show p.txt ++ (sepT ++ tailT (q :: r)) = p.txt ++ 32 :: 124 :: 32 :: tailT (q :: r) from rfl, pcsR_bar _ _ _ (h p (by simp)), pcsR_tail (q :: r) (fun x hx => h x (by simp at hx ⊢; exact .inr hx)) (by simp)]
   rfl
 | [], _, h => absurd rfl h
theorem pcsR_one (k : UInt8) : ∀ (x cur r : List UInt8), (∀ b ∈ x, b ≠ k) → pcsR [k] (x ++ k :: r) 0 cur = (cur ++ x) :: pcsR [k] r 0 []
 | [], cur, r, _ => by
   rw [List.nil_append, pcsR, if_pos (by simp [List.isPrefixOf]), List.append_nil]
   rfl
 | b :: x, cur, r, h => by
   have hb : ¬ k = b := fun e => h b (by simp) e.symm
   rw [List.cons_append, pcsR, if_neg (by simp [List.isPrefixOf, hb]), pcsR_one k x _ r fun c hc => h c (by simp [hc])]
   simp
theorem pcsR_none (k : UInt8) : ∀ (x cur : List UInt8), (∀ b ∈ x, b ≠ k) → pcsR [k] x 0 cur = [cur ++ x]
 | [], cur, _ => by rw [pcsR, List.append_nil]
 | b :: x, cur, h => by
   have hb : ¬ k = b := fun e => h b (by simp) e.symm
   rw [pcsR, if_neg (by simp [List.isPrefixOf, hb]), pcsR_none k x _ fun c hc => h c (by simp [hc])]
   simp
theorem pcs_words : ∀ {W : List (List UInt8)}, W ≠ [] → (∀ x ∈ W, ∀ b ∈ x, b ≠ 32) → pcsR [32] (Lib.join W [32]) 0 [] = W
 | [], h, _ => absurd rfl h
 | [x], _, hx => by rw [Lib.join_one, pcsR_none 32 x [] (hx x (by simp))]; rfl
 | x :: y :: r, _, hx => by
   rw [Plain.join_two, pcsR_one 32 x [] _ (hx x (by simp)), pcs_words (by simp) fun z hz => hx z (by simp [hz])]
   rfl
theorem noSl_out {x : List UInt8} (h : noSl x = true) : ∀ b ∈ x, b ≠ 47 := fun b hb => by
 unfold noSl at h
 have := List.all_eq_true.1 h b hb
 simpa using this
theorem goH_app : ∀ (A B : List (List UInt8)) (i : Nat) (c : Crd), goH i (A ++ B) c = goH (i + A.length) B (goH i A c)
 | [], B, i, c => rfl
 | w :: A, B, i, c => by
   rw [List.cons_append, goH, goH, goH_app A B]
   rw [List.length_cons, show i + 1 + A.length = i + (A.length + 1) by omega]
theorem stepH_free {i : Nat} (hi : 4 ≤ i) (c : Crd) {w : List UInt8} (hw : noSl w = true) : stepH i c w = if w = tokenT then { c with token := true } else if w.take 1 = [43] then (if (Ef.traitOf (w.drop 1)).2 = true then { c with traits := withT c.traits (Ef.traitOf (w.drop 1)).1 } else c) else c := by
 have hp : pcs w [47] = [w] := by unfold pcs; rw [pcsR_none 47 w [] (noSl_out hw)]; rfl
 unfold stepH
 rw [if_neg (by omega), if_neg (by omega), if_neg (by omega), if_neg (by omega), if_neg (by omega), if_neg (by omega), if_neg (by rw [hp]; simp)]
theorem stepH_unit (c : Crd) {p q : Int} (hp : 0 ≤ p ∧ p ≤ 99) (hq : 0 ≤ q ∧ q ≤ 99) : stepH 4 c ((Ef.dig p ++ [47]) ++ Ef.dig q) = { c with power := p, health := q } := by
 have e : (Ef.dig p ++ [47]) ++ Ef.dig q = Ef.dig p ++ 47 :: Ef.dig q := by simp
 have h1 := dig_ok hp.1 hp.2
 have h2 := dig_ok hq.1 hq.2
 unfold digOk at h1 h2
 rw [Bool.and_eq_true] at h1 h2
 have hpc : pcs (Ef.dig p ++ 47 :: Ef.dig q) [47] = [Ef.dig p, Ef.dig q] := by
  unfold pcs
  rw [pcsR_one 47 _ [] _ (noSl_out h1.1), pcsR_none 47 _ [] (noSl_out h2.1)]
  rfl
 have n1 : numN (Ef.dig p) = p := by
  have := Ef.num_all (p := fun c => decide (c < 0) || decide (numN (Ef.dig c) = c)) (by decide +kernel) (c := p) (by omega) hp.2
  simp only [Bool.or_eq_true, decide_eq_true_eq] at this; omega
 have n2 : numN (Ef.dig q) = q := by
  have := Ef.num_all (p := fun c => decide (c < 0) || decide (numN (Ef.dig c) = c)) (by decide +kernel) (c := q) (by omega) hq.2
  simp only [Bool.or_eq_true, decide_eq_true_eq] at this; omega
 rw [e]
 unfold stepH
 rw [if_neg (by omega), if_neg (by omega), if_neg (by omega), if_neg (by omega), if_neg (by omega), if_neg (by omega), hpc, if_pos ⟨rfl, rfl⟩]
 simp only [List.getD_cons_zero, List.getD_cons_succ, n1, n2]
theorem num_dig {p : Int} (hp : 0 ≤ p ∧ p ≤ 99) : numN (Ef.dig p) = p := by
 have := Ef.num_all (p := fun c => decide (c < 0) || decide (numN (Ef.dig c) = c)) (by decide +kernel) (c := p) (by omega) hp.2
 simp only [Bool.or_eq_true, decide_eq_true_eq] at this; omega
theorem suitR_back {s : Int} (h : 1 ≤ s ∧ s ≤ 6) : (Ef.suitR (Ef.sN s)).1 = s := by
 have : s = 1 ∨ s = 2 ∨ s = 3 ∨ s = 4 ∨ s = 5 ∨ s = 6 := by omega
 rcases this with rfl | rfl | rfl | rfl | rfl | rfl <;> decide +kernel
theorem trait_ok {t : Int} (h1 : 1 ≤ t) (h8 : t ≤ 8) : noSl (43 :: Ef.tN t) = true ∧ (Ef.traitOf (Ef.tN t)).2 = true := by
 have : t = 1 ∨ t = 2 ∨ t = 3 ∨ t = 4 ∨ t = 5 ∨ t = 6 ∨ t = 7 ∨ t = 8 := by omega
 rcases this with rfl | rfl | rfl | rfl | rfl | rfl | rfl | rfl <;> decide +kernel
theorem stepH_tr {i : Nat} (hi : 4 ≤ i) (c : Crd) {t : Int} (h1 : 1 ≤ t) (h8 : t ≤ 8) : stepH i c (43 :: Ef.tN t) = { c with traits := withT c.traits t } := by
 obtain ⟨q1, q2⟩ := trait_ok h1 h8
 rw [stepH_free hi c q1, if_neg (by unfold tokenT; intro e; injection e with e _; revert e; decide), if_pos (show (43 :: Ef.tN t).take 1 = [43] from rfl)]
 rw [show (43 :: Ef.tN t).drop 1 = Ef.tN t from rfl, if_pos q2, Ef.trait_of t h1 h8]
theorem goH_trs : ∀ (l : List Int) (i : Nat) (c : Crd), 4 ≤ i → (∀ t ∈ l, 1 ≤ t ∧ t ≤ 8) → goH i (wTr l) c = { c with traits := l.foldl (fun s u => withT s u) c.traits }
 | [], _, c, _, _ => rfl
 | t :: l, i, c, hi, h => by
   obtain ⟨h1, h8⟩ := h t (by simp)
   show goH (i + 1) (wTr l) (stepH i c (43 :: Ef.tN t)) = _
   rw [stepH_tr hi c h1 h8, goH_trs l (i + 1) _ (by omega) fun u hu => h u (by simp [hu])]
   rfl
theorem head6_back {c : Crd} {n : Nat} (h : faceE c n = 0) : goH 0 (W3 c) zeroC = c := by
 obtain ⟨_, f2, f3, f4, f5, f6, f7, _⟩ := face_zero h
 have hs : (Ef.suitR (snm c.suit)).1 = c.suit := by
  unfold snm at f2 ⊢
  split at f2
  · rename_i h6; rw [if_pos h6]; exact suitR_back h6
  · exact absurd rfl f2
 have e : W3 c = [c.name, snm c.suit, wrd c.kind, Ef.dig c.cost] ++ (wUnit c ++ (wTok c ++ wTr (lst c.traits 8))) := by unfold W3 wHead; simp
 have e0 : goH 0 [c.name, snm c.suit, wrd c.kind, Ef.dig c.cost] zeroC = { zeroC with name := c.name, suit := c.suit, kind := c.kind, cost := c.cost } := by
  have s0 : stepH 0 zeroC c.name = { zeroC with name := c.name } := by unfold stepH; rw [if_pos rfl]
  have s1 : ∀ d : Crd, stepH 1 d (snm c.suit) = { d with suit := c.suit } := fun d => by unfold stepH; rw [if_neg (by omega), if_pos rfl, hs]
  have s2 : ∀ d : Crd, stepH 2 d (wrd c.kind) = { d with kind := c.kind } := fun d => by
   have : c.kind = 1 ∨ c.kind = 2 ∨ c.kind = 3 := by
    unfold wrd at f3
    split at f3
    · omega
    · split at f3
      · omega
      · split at f3
        · omega
        · exact absurd rfl f3
   unfold stepH
   rcases this with hk | hk | hk
   · rw [hk, if_neg (by omega), if_neg (by omega), if_pos ⟨rfl, rfl⟩]
   · rw [hk, if_neg (by omega), if_neg (by omega), if_neg (by decide), if_pos ⟨rfl, rfl⟩]
   · rw [hk, if_neg (by omega), if_neg (by omega), if_neg (by decide), if_neg (by decide), if_pos ⟨rfl, rfl⟩]
  have s3 : ∀ d : Crd, stepH 3 d (Ef.dig c.cost) = { d with cost := c.cost } := fun d => by
   unfold stepH
   rw [if_neg (by omega), if_neg (by omega), if_neg (by omega), if_neg (by omega), if_neg (by omega), if_pos rfl, num_dig ⟨f4.1, by omega⟩]
  simp only [goH, s0, s1, s2, s3, Nat.reduceAdd]
 rw [e, goH_app, e0]
 have e1 : goH 4 (wUnit c) { zeroC with name := c.name, suit := c.suit, kind := c.kind, cost := c.cost } = { zeroC with name := c.name, suit := c.suit, kind := c.kind, cost := c.cost, power := c.power, health := c.health } := by
  unfold wUnit
  cases hk : (c.kind == 1) with
  | true =>
    show stepH 4 _ _ = _
    rw [stepH_unit _ f5 f6]
  | false =>
    obtain ⟨p1, p2⟩ := face_rest h (by simpa using hk)
    show ({ zeroC with name := c.name, suit := c.suit, kind := c.kind, cost := c.cost } : Crd) = _
    rw [p1, p2]; rfl
 rw [show 0 + [c.name, snm c.suit, wrd c.kind, Ef.dig c.cost].length = 4 from rfl, goH_app, e1]
 have e2 : ∀ i, 4 ≤ i → goH i (wTok c) { zeroC with name := c.name, suit := c.suit, kind := c.kind, cost := c.cost, power := c.power, health := c.health } = { zeroC with name := c.name, suit := c.suit, kind := c.kind, cost := c.cost, power := c.power, health := c.health, token := c.token } := fun i hi => by
  unfold wTok
  cases hk : c.token with
  | true => show stepH i _ tokenT = _; rw [stepH_free hi _ (by decide), if_pos rfl]
  | false => rfl
 rw [goH_app, e2 _ (by omega), goH_trs _ _ _ (by omega) fun t ht => lst_range ht]
 show ({ name := c.name, suit := c.suit, kind := c.kind, cost := c.cost, power := c.power, health := c.health, traits := (lst c.traits 8).foldl (fun s u => withT s u) 0, token := c.token } : Crd) = c
 rw [traits_back f7]
section
variable (pieces : List UInt8 → List (List UInt8)) (atoiV : List UInt8 → Int) (sf : List UInt8 → Int × Bool)
def headR (s : List UInt8) : Crd := goH 0 (pcs ((pcs s sepT).getD 0 []) [32]) zeroC
noncomputable def psR (s : List UInt8) : List Prt := ((pcs s sepT).drop 1).map fun x => (prsP pieces atoiV sf x).1
def GoodR (s : List UInt8) : Prop := s.length ≤ 512 ∧ (∀ x ∈ (pcs s sepT).drop 1, (prsP pieces atoiV sf x).2 = 0) ∧ chkC (headR s) (psR pieces atoiV sf s) = 0 ∧ txtC (headR s) (psR pieces atoiV sf s) = s
end
theorem ref_back {pieces : List UInt8 → List (List UInt8)} {atoiV : List UInt8 → Int} {sf : List UInt8 → Int × Bool} (A : Ef.RTold atoiV sf) (hp : ∀ W : List (List UInt8), W ≠ [] → W.all Ef.noB = true → pieces (Lib.join W [32]) = W) {c : Crd} {ps : List Prt} (h : chkC c ps = 0) :
    GoodR pieces atoiV sf (txtC c ps) ∧ headR (txtC c ps) = c ∧ psR pieces atoiV sf (txtC c ps) = ps := by
 obtain ⟨hf, hps⟩ := chkC_out h
 have hW : W3 c ≠ [] := by unfold W3 wHead; simp
 have hb := noBar_join (W3_noBar hf)
 have et : txtC c ps = Lib.join (wordsC c ps) [32] := by unfold txtC; rw [if_pos h]
 have key : pcs (txtC c ps) sepT = Lib.join (W3 c) [32] :: ps.map Prt.txt := by
  by_cases he : ps = []
  · subst he
    rw [et, wordsC_eq, show wPs [] = [] from rfl, List.append_nil]
    unfold pcs
    rw [pcsR_last _ _ hb]; rfl
  · rw [et, wordsC_eq, join_app hW (by cases ps with | nil => exact absurd rfl he | cons p l => simp [wPs]), join_parts he]
    unfold pcs
    rw [pcsR_bar _ _ _ hb, pcsR_tail ps (fun p hp' => txt_noBar (hps p hp')) he]
    rfl
 have e1 : headR (txtC c ps) = c := by
  unfold headR
  rw [key, List.getD_cons_zero]
  unfold pcs
  rw [pcs_words hW fun x hx => Ef.noB_out (List.all_eq_true.1 (W3_noB hf) x hx), head6_back hf]
 have hq : ∀ p ∈ ps, prsP pieces atoiV sf p.txt = (p, 0) := fun p hp' => prsP_back A hp (hps p hp')
 have e2 : psR pieces atoiV sf (txtC c ps) = ps := by
  unfold psR
  rw [key, List.drop_one, List.tail_cons, List.map_map]
  conv => rhs; rw [← List.map_id ps]
  apply List.map_congr_left
  intro p hp'
  show (prsP pieces atoiV sf p.txt).1 = p
  rw [hq p hp']
 refine ⟨⟨by rw [et]; exact text_len hf, fun x hx => ?_, by rw [e1, e2]; exact h, by rw [e1, e2]⟩, e1, e2⟩
 rw [key, List.drop_one, List.tail_cons] at hx
 obtain ⟨p, hp', rfl⟩ := List.mem_map.1 hx
 rw [hq p hp']
theorem good_iff {pieces : List UInt8 → List (List UInt8)} {atoiV : List UInt8 → Int} {sf : List UInt8 → Int × Bool} (A : Ef.RTold atoiV sf) (hp : ∀ W : List (List UInt8), W ≠ [] → W.all Ef.noB = true → pieces (Lib.join W [32]) = W) (s : List UInt8) :
    (GoodR pieces atoiV sf s ↔ GoodC pieces atoiV sf s) ∧ (GoodC pieces atoiV sf s → headR s = headCard atoiV sf s ∧ psR pieces atoiV sf s = (finOf pieces atoiV sf s).2) := by
 have h1 : GoodR pieces atoiV sf s → GoodC pieces atoiV sf s := fun h => by
  have := (card_back A hp h.2.2.1).1
  rwa [h.2.2.2] at this
 have h2 : GoodC pieces atoiV sf s → GoodR pieces atoiV sf s ∧ headR s = headCard atoiV sf s ∧ psR pieces atoiV sf s = (finOf pieces atoiV sf s).2 := fun h => by
  have := ref_back A hp h.2.2.1
  rwa [h.2.2.2] at this
 exact ⟨⟨h1, fun h => (h2 h).1⟩, fun h => (h2 h).2⟩
end Go.Proofs.Cards
