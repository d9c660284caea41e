/- A card's text, cut and read, is the card: in plain words. (Under way: the cuts and the parts.) -/
import Derived.Test.YtjmhjipacmlojaaGreatDoorFz05
import Derived.Test.YtjmhjipacmlojaaGreatDoorFz06
import Derived.Test.YtjmhjipacmlojaaGreatDoorZcCdParseT
namespace Go.Proofs.Cards
open Go Go.Fs
set_option linter.unusedSimpArgs false
set_option linter.unusedVariables false
def noBar (x : List UInt8) : Bool := x.all (fun b => b != 124)
theorem sep_no {b : UInt8} {l : List UInt8} (h : ∀ c, l.head? = some c → c ≠ 124) : sepT.isPrefixOf (b :: l) = false := by
 cases l with
 | nil => simp [sepT, List.isPrefixOf]
 | cons c r =>
   have hc : c ≠ 124 := h c rfl
   have : ((124 : UInt8) == c) = false := by rw [beq_eq_false_iff_ne]; exact fun e => hc e.symm
   simp [sepT, List.isPrefixOf, this]
theorem index_step {b : UInt8} {l : List UInt8} (h : sepT.isPrefixOf (b :: l) = false) : Lib.index (b :: l) sepT = if Lib.index l sepT = -1 then -1 else Lib.index l sepT + 1 := by
 rw [Lib.index]
 rw [if_neg (by simp [h])]
 split
 · rename_i h2
   rw [if_pos (by simpa using h2)]
 · rename_i h2
   rw [if_neg (by simpa using h2)]
   try omega
theorem index_none {x : List UInt8} (hx : noBar x = true) : Lib.index x sepT = -1 := by
 induction x with
 | nil => simp [Lib.index, sepT]
 | cons b l ih =>
   simp only [noBar, List.all_cons, Bool.and_eq_true] at hx
   have hl := ih hx.2
   rw [index_step (sep_no fun c hc => ?_), hl]
   · rfl
   · cases l with
     | nil => cases hc
     | cons d r =>
       simp at hc; subst hc
       have := hx.2
       simp at this
       exact this.1
theorem index_at {x : List UInt8} (hx : noBar x = true) (r : List UInt8) : Lib.index (x ++ (sepT ++ r)) sepT = x.length := by
 induction x with
 | nil =>
   show Lib.index ((32 :: 124 :: 32 :: r)) sepT = 0
   rw [Lib.index, if_pos (by simp [sepT, List.isPrefixOf])]
 | cons b l ih =>
   simp only [noBar, List.all_cons, Bool.and_eq_true] at hx
   have hl := ih hx.2
   rw [List.cons_append, index_step (sep_no fun c hc => ?_), hl]
   · rw [if_neg (by omega)]; simp
   · cases l with
     | nil => simp [sepT] at hc; subst hc; decide
     | cons d r =>
       simp at hc; subst hc
       have := hx.2
       simp at this
       exact this.1
theorem cut_none {x : List UInt8} (hx : noBar x = true) : cutA x sepT = x ∧ cutB x sepT = [] ∧ cutM x sepT = false := by
 have h := index_none hx
 refine ⟨?_, ?_, ?_⟩
 · unfold cutA; rw [h]; rfl
 · unfold cutB; rw [h]; rfl
 · unfold cutM; rw [h]; rfl
theorem cut_bar {x : List UInt8} (hx : noBar x = true) (r : List UInt8) : cutA (x ++ (sepT ++ r)) sepT = x ∧ cutB (x ++ (sepT ++ r)) sepT = r ∧ cutM (x ++ (sepT ++ r)) sepT = true := by
 have h := index_at hx r
 refine ⟨?_, ?_, ?_⟩
 · unfold cutA; rw [h, if_pos (by omega)]; simp
 · unfold cutB; rw [h, if_pos (by omega), Int.toNat_natCast, ← List.append_assoc, ← List.length_append]; simp
 · unfold cutM; rw [h]; simp
def tailT : List Prt → List UInt8
 | [] => []
 | [p] => p.txt
 | p :: q :: r => p.txt ++ (sepT ++ tailT (q :: r))
theorem goP_step {f : List UInt8 → Prt × Int} {n : Nat} {rest one rest' : List UInt8} {more' : Bool} {ps : List Prt} {p : Prt} (c1 : cutA rest sepT = one) (c2 : cutB rest sepT = rest') (c3 : cutM rest sepT = more') (h1 : f one = (p, 0)) (h4 : ps.length < 4) :
    goP f (n + 1) true true rest ps = goP f n true more' rest' (ps ++ [p]) := by
 subst c1 c2 c3
 have e : goP f (n + 1) true true rest ps = if (true && true) = true then goP f n (decide ((f (cutA rest sepT)).2 = 0) && decide (ps.length < 4)) (cutM rest sepT) (cutB rest sepT) (ps ++ [(f (cutA rest sepT)).1]) else (true, ps) := rfl
 rw [e]
 simp only [h1, decide_eq_true h4, Bool.and_self, decide_true, if_true]
theorem goP_stop {f : List UInt8 → Prt × Int} {n : Nat} {ok more : Bool} {rest : List UInt8} {ps : List Prt} (h : (ok && more) = false) : goP f n ok more rest ps = (ok, ps) := by
 cases n with
 | zero => rfl
 | succ m =>
   rw [goP, if_neg (by simp [h])]
theorem goP_tail {f : List UInt8 → Prt × Int} : ∀ (ps : List Prt) (n : Nat) (acc : List Prt), (∀ p ∈ ps, f p.txt = (p, 0) ∧ noBar p.txt = true) → ps.length ≤ n → acc.length + ps.length ≤ 4 → ps ≠ [] →
    goP f n true true (tailT ps) acc = (true, acc ++ ps)
 | [p], n + 1, acc, h, _, h4, _ => by
   obtain ⟨h1, h2⟩ := h p (by simp)
   obtain ⟨c1, c2, c3⟩ := cut_none h2
   have h4' : acc.length < 4 := by simp at h4; omega
   rw [tailT, goP_step c1 c2 c3 h1 h4', goP_stop rfl]
 | p :: q :: r, n + 1, acc, h, hn, h4, _ => by
   obtain ⟨h1, h2⟩ := h p (by simp)
   obtain ⟨c1, c2, c3⟩ := cut_bar h2 (tailT (q :: r))
   have h4' : acc.length < 4 := by simp at h4; omega
   rw [tailT, goP_step c1 c2 c3 h1 h4']
   rw [goP_tail (q :: r) n (acc ++ [p]) (fun x hx => h x (by simp at hx ⊢; exact .inr hx)) (by simp at hn ⊢; omega) (by simp at h4 ⊢; omega) (by simp)]
   simp
 | [], _, _, _, _, _, h => absurd rfl h
 | p :: r, 0, _, _, hn, _, _ => by simp at hn
theorem join_app : ∀ {W V : List (List UInt8)}, W ≠ [] → V ≠ [] → Lib.join (W ++ V) [32] = Lib.join W [32] ++ 32 :: Lib.join V [32]
 | [x], v :: V, _, _ => by rw [List.singleton_append, Plain.join_two, Lib.join_one]
 | x :: y :: r, V, _, hV => by
   rw [List.cons_append, List.cons_append, Plain.join_two, ← List.cons_append, join_app (by simp) hV, Plain.join_two]
   simp
 | [], _, h, _ => absurd rfl h
 | _, [], _, h => absurd rfl h
theorem join_parts : ∀ {ps : List Prt}, ps ≠ [] → Lib.join (wPs ps) [32] = 124 :: 32 :: tailT ps
 | [p], _ => by
   show Lib.join [[124], p.txt] [32] = _
   rw [Plain.join_two, Lib.join_one]; rfl
 | p :: q :: r, _ => by
   show Lib.join ([[124]] ++ ([p.txt] ++ wPs (q :: r))) [32] = _
   rw [join_app (by simp) (by simp), join_app (by simp) (by simp [wPs]), join_parts (by simp), Lib.join_one, Lib.join_one]
   simp [tailT, sepT]
 | [], h => absurd rfl h
theorem noBar_app {x y : List UInt8} (hx : noBar x = true) (hy : noBar y = true) : noBar (x ++ y) = true := by
 unfold noBar at *; rw [List.all_append, hx, hy]; rfl
theorem noBar_join : ∀ {W : List (List UInt8)}, W.all noBar = true → noBar (Lib.join W [32]) = true
 | [], _ => by simp [Lib.join, noBar]
 | [x], h => by rw [Lib.join_one]; simpa using h
 | x :: y :: r, h => by
   rw [List.all_cons, Bool.and_eq_true] at h
   rw [Plain.join_two]
   refine noBar_app h.1 ?_
   have := noBar_join h.2
   unfold noBar at this ⊢
   rw [List.all_cons, this]; rfl
theorem noBar_getD {l : List (List UInt8)} (h : l.all noBar = true) (i : Nat) : noBar (l.getD i []) = true := by
 rw [List.getD_eq_getElem?_getD]
 cases hi : l[i]? with
 | none => rfl
 | some x => exact List.all_eq_true.1 h x (List.mem_of_getElem? hi)
theorem noBar_dig {c : Int} (h1 : -99 ≤ c) (h2 : c ≤ 99) : noBar (Ef.dig c) = true := Ef.num_all (p := fun c => noBar (Ef.dig c)) (by decide +kernel) h1 h2
theorem noBar_sN (s : Int) : noBar (Ef.sN s) = true := noBar_getD (by decide) _
theorem noBar_tN (s : Int) : noBar (Ef.tN s) = true := noBar_getD (by decide) _
theorem noBar_name {x : List UInt8} (h : Ef.isName x = true) : noBar x = true := by
 simp only [Ef.isName, Bool.and_eq_true] at h
 refine List.all_eq_true.2 fun b hb => ?_
 have h1 := List.all_eq_true.1 h.2 b hb
 have h2 : Ef.cutset.contains 124 = false := by decide
 rw [bne_iff_ne]
 rintro rfl
 rw [h2] at h1
 cases h1
theorem W5_noBar {w v m c s t k : Int} {nm : List UInt8} (h : Ef.chk w v m c s t k nm = 0) (i j l : Nat) : (Ef.W5 i j l v m c s t k nm).all noBar = true := by
 obtain ⟨_, hC, hS, hT, hM, hN⟩ := Ef.chk_zero h
 obtain ⟨_, _, _, _, _, hN'⟩ := Ef.chk_rest h
 unfold Ef.W5
 refine Ef.all_opt (Ef.all_opt (Ef.all_opt (Ef.all_opt (Ef.all_opt ?_ fun hu => ?_) fun hu => noBar_sN s) fun hu => noBar_tN t) fun hu => ?_) fun hu => noBar_name (hN' hu)
 · unfold Ef.W0
   simp only [List.all_cons, List.all_nil, Bool.and_true]
   rw [noBar_getD (l := Ef.whenL) (by decide), noBar_getD (l := Ef.verbL) (by decide), noBar_getD (l := Ef.whomL) (by decide)]; rfl
 · exact noBar_dig (hC hu).1 (hC hu).2
 · have := hM hu; exact noBar_dig (by omega) (by omega)
theorem txt_noBar {p : Prt} (h : p.chk = 0) : noBar p.txt = true := by
 unfold Prt.txt Ef.txtP
 unfold Prt.chk at h
 rw [if_pos h, ← Ef.join_W5]
 exact noBar_join (W5_noBar h _ _ _)
theorem snm_noBar (s : Int) : noBar (snm s) = true := by unfold snm; split; exact noBar_sN s; rfl
theorem snm_noB (s : Int) : Ef.noB (snm s) = true := by unfold snm; split; exact Ef.noB_sN s; rfl
theorem wrd_noBar (k : Int) : noBar (wrd k) = true := by unfold wrd; (repeat' split) <;> rfl
theorem wrd_noB (k : Int) : Ef.noB (wrd k) = true := by unfold wrd; (repeat' split) <;> rfl
theorem face_rest {c : Crd} {n : Nat} (h : faceE c n = 0) (hk : c.kind ≠ 1) : c.power = 0 ∧ c.health = 0 := by
 unfold faceE faceB at h
 split at h
 · cases h
 split at h
 · cases h
 split at h
 · cases h
 split at h
 · cases h
 rename_i h4
 simp at h4
 exact h4.2 hk
theorem traits_back {t : Int} (h : tcB t = true) : (lst t 8).foldl (fun s u => withT s u) 0 = t := by
 have h1 : ∀ i : Fin 256, (lst (i.val : Int) 8).foldl (fun s u => withT s u) 0 = (i.val : Int) := by decide +kernel
 have h2 : t.fdiv 256 = 0 := by simpa [tcB] using h
 have h3 : 0 ≤ t ∧ t < 256 := by
  have := Int.mul_fdiv_add_fmod t 256
  have a := Int.fmod_nonneg_of_pos t (show (0 : Int) < 256 by decide)
  have b := Int.fmod_lt_of_pos t (show (0 : Int) < 256 by decide)
  omega
 have := h1 ⟨t.toNat, by omega⟩
 rwa [show ((t.toNat : Nat) : Int) = t by omega] at this
theorem step_tr (atoiV : List UInt8 → Int) (c : Crd) {t : Int} (h1 : 1 ≤ t) (h8 : t ≤ 8) : stepC atoiV c (43 :: Ef.tN t) = { c with traits := withT c.traits t } := by
 unfold stepC
 rw [if_neg (by unfold tokenT; intro e; injection e with e _; revert e; decide), if_pos (show (43 :: Ef.tN t).take 1 = [43] from rfl)]
 rw [show (43 :: Ef.tN t).drop 1 = Ef.tN t from rfl, Ef.trait_of t h1 h8]
theorem step_trs (atoiV : List UInt8 → Int) : ∀ (l : List Int) (c : Crd), (∀ t ∈ l, 1 ≤ t ∧ t ≤ 8) → (wTr l).foldl (stepC atoiV) c = { c with traits := l.foldl (fun s u => withT s u) c.traits }
 | [], c, _ => rfl
 | t :: l, c, h => by
   obtain ⟨h1, h8⟩ := h t (by simp)
   show (wTr l).foldl (stepC atoiV) (stepC atoiV c (43 :: Ef.tN t)) = _
   rw [step_tr atoiV c h1 h8, step_trs atoiV l _ fun u hu => h u (by simp [hu])]
   rfl
theorem step_tok (atoiV : List UInt8 → Int) (c : Crd) : stepC atoiV c tokenT = { c with token := true } := by
 unfold stepC; rw [if_pos rfl]
def noSl (x : List UInt8) : Bool := x.all (fun b => b != 47)
theorem index_slash {x : List UInt8} (hx : noSl x = true) (y : List UInt8) : Lib.index (x ++ 47 :: y) [47] = x.length := by
 induction x with
 | nil => rw [List.nil_append, Lib.index, if_pos (by simp [List.isPrefixOf])]; rfl
 | cons b l ih =>
   simp only [noSl, List.all_cons, Bool.and_eq_true] at hx
   have hl := ih hx.2
   have hb : ((47 : UInt8) == b) = false := by rw [beq_eq_false_iff_ne]; have := hx.1; simp at this; exact fun e => this e.symm
   rw [List.cons_append, Lib.index, if_neg (by simp [List.isPrefixOf, hb])]
   rw [hl]
   split
   · rename_i h2; simp at h2; try omega
   · simp; try omega
theorem cut_slash {x : List UInt8} (hx : noSl x = true) (y : List UInt8) : cutA (x ++ 47 :: y) [47] = x ∧ cutB (x ++ 47 :: y) [47] = y := by
 have h := index_slash hx y
 refine ⟨?_, ?_⟩
 · unfold cutA; rw [h, if_pos (by omega)]; simp
 · unfold cutB
   rw [h, if_pos (by omega), Int.toNat_natCast]
   rw [show x ++ 47 :: y = (x ++ [47]) ++ y by simp, show x.length + [(47 : UInt8)].length = (x ++ [47]).length by simp]
   simp
def digOk (x : List UInt8) : Bool := noSl x && (match x with | [] => false | b :: _ => b != 43 && b != 116)
theorem dig_ok {c : Int} (h1 : 0 ≤ c) (h2 : c ≤ 99) : digOk (Ef.dig c) = true := Ef.num_all (p := fun c => digOk (Ef.dig c)) (by decide +kernel) (by omega) h2
theorem step_unit {atoiV : List UInt8 → Int} {sf : List UInt8 → Int × Bool} (A : Ef.RTold atoiV sf) (c : Crd) {p q : Int} (hp : 0 ≤ p ∧ p ≤ 99) (hq : 0 ≤ q ∧ q ≤ 99) : stepC atoiV c ((Ef.dig p ++ [47]) ++ Ef.dig q) = { c with power := p, health := q } := by
 have hd := dig_ok hp.1 hp.2
 have e : (Ef.dig p ++ [47]) ++ Ef.dig q = Ef.dig p ++ 47 :: Ef.dig q := by simp
 unfold digOk at hd
 rw [Bool.and_eq_true] at hd
 obtain ⟨c1, c2⟩ := cut_slash hd.1 (Ef.dig q)
 have a1 := A.num p (by omega) (by omega)
 have a2 := A.num q (by omega) (by omega)
 rw [e]
 unfold stepC
 rw [c1, c2, a1, a2]
 have hd2 := hd.2
 generalize Ef.dig p = x at *
 cases x with
 | nil => cases hd2
 | cons b r =>
   simp only [Bool.and_eq_true, bne_iff_ne] at hd2
   rw [if_neg (by unfold tokenT; intro e; simp at e; exact hd2.2 e.1), if_neg (by intro e; simp at e; exact hd2.1 e)]
def W3 (c : Crd) : List (List UInt8) := ((wHead c ++ wUnit c) ++ wTok c) ++ wTr (lst c.traits 8)
theorem wordsC_eq (c : Crd) (ps : List Prt) : wordsC c ps = W3 c ++ wPs ps := rfl
theorem W3_all {P : List UInt8 → Bool} {c : Crd} {n : Nat} (h : faceE c n = 0) (hn : P c.name = true) (hs : ∀ s, P (snm s) = true) (hw : ∀ k, P (wrd k) = true) (hd : ∀ c, -99 ≤ c → c ≤ 99 → P (Ef.dig c) = true) (hu : ∀ x y, P x = true → P y = true → P ((x ++ [47]) ++ y) = true) (ht : P tokenT = true) (htr : ∀ t, P (43 :: Ef.tN t) = true) : (W3 c).all P = true := by
 obtain ⟨_, _, _, f4, f5, f6, _, _⟩ := face_zero h
 unfold W3
 rw [List.all_append, Bool.and_eq_true]
 refine ⟨?_, ?_⟩
 · unfold wTok wUnit
   refine Ef.all_opt (Ef.all_opt ?_ fun _ => hu _ _ (hd _ (by omega) (by omega)) (hd _ (by omega) (by omega))) fun _ => ht
   unfold wHead
   simp only [List.all_cons, List.all_nil, Bool.and_true, hn, hs, hw, hd c.cost (by omega) (by omega)]
   try rfl
 · unfold wTr
   rw [List.all_map, List.all_eq_true]
   intro t _
   exact htr t
theorem W3_noB {c : Crd} {n : Nat} (h : faceE c n = 0) : (W3 c).all Ef.noB = true :=
 W3_all h (Ef.noB_name (face_zero h).1) snm_noB wrd_noB (fun c h1 h2 => Ef.noB_dig h1 h2) (fun x y hx hy => by unfold Ef.noB at *; simp only [List.all_append, hx, hy]; rfl) (by decide) (fun t => by
  have := Ef.noB_tN t
  unfold Ef.noB at this ⊢
  rw [List.all_cons, this]; rfl)
theorem W3_noBar {c : Crd} {n : Nat} (h : faceE c n = 0) : (W3 c).all noBar = true :=
 W3_all h (noBar_name (face_zero h).1) snm_noBar wrd_noBar (fun c h1 h2 => noBar_dig h1 h2) (fun x y hx hy => by unfold noBar at *; simp only [List.all_append, hx, hy]; rfl) (by decide) (fun t => by
  have := noBar_tN t
  unfold noBar at this ⊢
  rw [List.all_cons, this]; rfl)
theorem kd_back {k : Int} (h : wrd k ≠ []) : kd (wrd k) 3 = k := by
 have : k = 1 ∨ k = 2 ∨ k = 3 := by
  unfold wrd at h
  split at h
  · omega
  · split at h
    · omega
    · split at h
      · omega
      · exact absurd rfl h
 rcases this with rfl | rfl | rfl <;> decide
theorem head_back {atoiV : List UInt8 → Int} {sf : List UInt8 → Int × Bool} (A : Ef.RTold atoiV sf) {c : Crd} {n : Nat} (h : faceE c n = 0) : headC atoiV sf (W3 c) = c := by
 obtain ⟨_, f2, f3, f4, f5, f6, f7, _⟩ := face_zero h
 have hs : (sf (snm c.suit)).1 = c.suit := by
  unfold snm at f2 ⊢
  split at f2
  · rename_i h6; rw [if_pos h6]; exact A.suit _ h6.1 h6.2
  · exact absurd rfl f2
 have e : W3 c = c.name :: snm c.suit :: wrd c.kind :: Ef.dig c.cost :: ((wUnit c ++ wTok c) ++ wTr (lst c.traits 8)) := by unfold W3 wHead; simp
 rw [e]
 unfold headC
 simp only [List.drop_succ_cons, List.drop_zero, List.getD_cons_zero, List.getD_cons_succ, List.foldl_append]
 rw [hs, kd_back f3, A.num _ (by omega) (by omega)]
 have e1 : (wUnit c).foldl (stepC atoiV) { zeroC with name := c.name, suit := c.suit, kind := c.kind, cost := c.cost } = { zeroC with name := c.name, suit := c.suit, kind := c.kind, cost := c.cost, power := c.power, health := c.health } := by
  unfold wUnit
  cases hk : (c.kind == 1) with
  | true =>
    show stepC atoiV _ _ = _
    rw [step_unit A _ f5 f6]
  | false =>
    obtain ⟨p1, p2⟩ := face_rest h (by simpa using hk)
    show ({ zeroC with name := c.name, suit := c.suit, kind := c.kind, cost := c.cost } : Crd) = _
    rw [p1, p2]; rfl
 rw [e1]
 have e2 : (wTok c).foldl (stepC atoiV) { zeroC with name := c.name, suit := c.suit, kind := c.kind, cost := c.cost, power := c.power, health := c.health } = { zeroC with name := c.name, suit := c.suit, kind := c.kind, cost := c.cost, power := c.power, health := c.health, token := c.token } := by
  unfold wTok
  cases hk : c.token with
  | true => show stepC atoiV _ tokenT = _; rw [step_tok]
  | false => rfl
 rw [e2, step_trs atoiV _ _ fun t ht => lst_range ht]
 show ({ name := c.name, suit := c.suit, kind := c.kind, cost := c.cost, power := c.power, health := c.health, traits := (lst c.traits 8).foldl (fun s u => withT s u) 0, token := c.token } : Crd) = c
 rw [traits_back f7]
theorem join_sum : ∀ (W : List (List UInt8)), (Lib.join W [32]).length ≤ (W.map (fun x => x.length + 1)).sum
 | [] => by simp [Lib.join_nil]
 | [x] => by rw [Lib.join_one]; simp
 | x :: y :: r => by
   rw [Plain.join_two]
   have := join_sum (y :: r)
   simp only [List.length_append, List.length_cons, List.map_cons, List.sum_cons] at this ⊢
   omega
theorem sum_tr (l : List Int) : ((wTr l).map (fun x => x.length + 1)).sum ≤ l.length * 7 := by
 induction l with
 | nil => simp [wTr]
 | cons t l ih =>
   have := Ef.tN_len5 t
   simp only [wTr, List.map_cons, List.sum_cons, List.length_cons] at ih ⊢
   omega
theorem sum_ps (ps : List Prt) : ((wPs ps).map (fun x => x.length + 1)).sum ≤ ps.length * 83 := by
 induction ps with
 | nil => simp [wPs]
 | cons p l ih =>
   have : p.txt.length ≤ 80 := Ef.txtP_len80 _ _ _ _ _ _ _ _
   simp only [wPs, List.flatMap_cons, List.cons_append, List.nil_append, List.map_cons, List.sum_cons, List.length_cons, List.length_nil] at ih ⊢
   omega
theorem snm_len (s : Int) : (snm s).length ≤ 5 := by unfold snm; split; exact Ef.sN_len5 s; simp
theorem wrd_len (k : Int) : (wrd k).length ≤ 5 := by unfold wrd; (repeat' split) <;> simp
theorem name_len {x : List UInt8} (h : Ef.isName x = true) : x.length ≤ 20 := by
 simp only [Ef.isName, Bool.and_eq_true, decide_eq_true_eq] at h
 exact h.1.1.2
theorem text_len {c : Crd} {ps : List Prt} (h : faceE c ps.length = 0) : (Lib.join (wordsC c ps) [32]).length ≤ 512 := by
 obtain ⟨f1, _, _, _, _, _, _, f8⟩ := face_zero h
 refine Nat.le_trans (join_sum _) ?_
 have a1 := name_len f1
 have a2 := snm_len c.suit
 have a3 := wrd_len c.kind
 have a4 := Ef.dig_len c.cost
 have a5 := Ef.dig_len c.power
 have a6 := Ef.dig_len c.health
 have a7 := sum_tr (lst c.traits 8)
 have a8 := lst_len c.traits 8
 have a9 := sum_ps ps
 have b1 : ((wUnit c).map (fun x => x.length + 1)).sum ≤ 8 := by
  unfold wUnit
  cases c.kind == 1 <;> simp [Ef.optL]; omega
 have b2 : ((wTok c).map (fun x => x.length + 1)).sum ≤ 6 := by
  unfold wTok
  cases c.token <;> simp [Ef.optL, tokenT]
 unfold wordsC wHead
 simp only [List.map_append, List.sum_append, List.map_cons, List.map_nil, List.sum_cons, List.sum_nil]
 omega
theorem chkC_out {c : Crd} {ps : List Prt} (h : chkC c ps = 0) : faceE c ps.length = 0 ∧ ∀ p ∈ ps, p.chk = 0 := by
 unfold chkC at h
 split at h
 · rename_i hf
   refine ⟨hf, ?_⟩
   clear hf
   induction ps with
   | nil => intro p hp; cases hp
   | cons q l ih =>
     rw [firstE] at h
     split at h
     · rename_i hq
       intro p hp
       rcases List.mem_cons.1 hp with rfl | hp
       · unfold partE at hq
         split at hq
         · assumption
         · exact absurd hq (by assumption)
       · exact ih h p hp
     · rename_i hq; exact absurd h hq
 · rename_i hf; exact absurd h hf
theorem card_back {pieces : List UInt8 → List (List UInt8)} {atoiV : List UInt8 → Int} {sf : List UInt8 → Int × Bool} (A : Ef.RTold atoiV sf) (hp : ∀ W : List (List UInt8), W ≠ [] → W.all Ef.noB = true → pieces (Lib.join W [32]) = W) {c : Crd} {ps : List Prt} (h : chkC c ps = 0) :
    GoodC pieces atoiV sf (txtC c ps) ∧ headCard atoiV sf (txtC c ps) = c ∧ finOf pieces atoiV sf (txtC c ps) = (true, ps) := by
 obtain ⟨hf, hps⟩ := chkC_out h
 have hn := (face_zero hf).2.2.2.2.2.2.2
 have hW : W3 c ≠ [] := by unfold W3 wHead; simp
 have hb := noBar_join (W3_noBar hf)
 have hsplit : Lib.split (Lib.join (W3 c) [32]) [32] = W3 c := Plain.split_join hW fun x hx => Ef.noB_out (List.all_eq_true.1 (W3_noB hf) x hx)
 have h4 : 4 ≤ (W3 c).length := by unfold W3 wHead; simp
 have et : txtC c ps = Lib.join (wordsC c ps) [32] := by unfold txtC; rw [if_pos h]
 have key : cutA (txtC c ps) sepT = Lib.join (W3 c) [32] ∧ goP (prsP pieces atoiV sf) 6 true (cutM (txtC c ps) sepT) (cutB (txtC c ps) sepT) [] = (true, ps) := by
  by_cases he : ps = []
  · subst he
    rw [et, wordsC_eq, show wPs [] = [] from rfl, List.append_nil]
    obtain ⟨c1, c2, c3⟩ := cut_none hb
    exact ⟨c1, by rw [c3, goP_stop rfl]⟩
  · rw [et, wordsC_eq, join_app hW (by cases ps with | nil => exact absurd rfl he | cons p l => simp [wPs]), join_parts he]
    obtain ⟨c1, c2, c3⟩ := cut_bar hb (tailT ps)
    rw [show Lib.join (W3 c) [32] ++ 32 :: 124 :: 32 :: tailT ps = Lib.join (W3 c) [32] ++ (sepT ++ tailT ps) from rfl]
    refine ⟨c1, ?_⟩
    rw [c2, c3, goP_tail ps 6 [] (fun p hp' => ⟨prsP_back A hp (hps p hp'), txt_noBar (hps p hp')⟩) (by omega) (by simp; omega) he]
    rfl
 have e1 : headCard atoiV sf (txtC c ps) = c := by
  unfold headCard
  rw [key.1, hsplit, if_pos h4, head_back A hf]
 have e2 : finOf pieces atoiV sf (txtC c ps) = (true, ps) := by
  unfold finOf
  rw [key.1, hsplit, decide_eq_true h4]
  exact key.2
 refine ⟨⟨by rw [et]; exact text_len hf, by rw [e2], by rw [e1, e2]; exact h, by rw [e1, e2]⟩, e1, e2⟩
end Go.Proofs.Cards
