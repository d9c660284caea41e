/- There and back, in plain words: the pieces of a part's text are read as the part. -/
import Derived.Test.YtjmhjipacmlojaaGreatDoorZcEfPw
import Derived.Test.YtjmhjipacmlojaaGreatDoorFz06
namespace Go.Proofs.Ef
open Go Go.Fs
set_option linter.unusedSimpArgs false
set_option linter.unusedVariables false
theorem chk_rest {w v m c s t k : Int} {nm : List UInt8} (h : chk w v m c s t k nm = 0) : (uC v = false → c = 0) ∧ (uS v m = false → s = 0) ∧ (uT v m = false → t = 0) ∧ (uM v = false → k = 0) ∧ (uN v = false → nm = []) ∧ (uN v = true → isName nm = true) := by
 unfold chk at h
 cases hb1 : bad1 w v m
 case true => simp [hb1] at h
 cases hb2 : bad2 w v m
 case true => simp [hb1, hb2] at h
 cases hb3 : aboutB w v m
 case false => simp [hb1, hb2, hb3] at h
 cases hb4 : bad4 v c
 case true => simp [hb1, hb2, hb3, hb4] at h
 cases hb5 : bad5 v m s t k
 case true => simp [hb1, hb2, hb3, hb4, hb5] at h
 cases hb6 : bad6 v nm
 case true => simp [hb1, hb2, hb3, hb4, hb5, hb6] at h
 clear h hb2 hb3 hb1
 refine ⟨fun hu => ?_, fun hu => ?_, fun hu => ?_, fun hu => ?_, fun hu => ?_, fun hu => ?_⟩
 · simp only [bad4, withinB, hu, Bool.false_eq_true, if_false, Bool.or_eq_false_iff, Bool.not_eq_false', beq_iff_eq] at hb4
   exact hb4.1
 · simp only [bad5, withinB, hu, Bool.false_eq_true, if_false, Bool.or_eq_false_iff, Bool.not_eq_false', beq_iff_eq] at hb5
   exact hb5.1.1
 · simp only [bad5, withinB, hu, Bool.false_eq_true, if_false, Bool.or_eq_false_iff, Bool.not_eq_false', beq_iff_eq] at hb5
   exact hb5.1.2
 · simp only [bad5, withinB, hu, Bool.false_eq_true, if_false, Bool.or_eq_false_iff, Bool.not_eq_false', beq_iff_eq] at hb5
   exact hb5.2
 · simp only [bad6, hu, Bool.false_and, Bool.or_false, bne_eq_false_iff_eq] at hb6
   simpa using hb6.symm
 · simp only [bad6, hu, Bool.or_eq_false_iff, Bool.true_and, Bool.not_eq_false'] at hb6
   exact hb6.2
def noB (x : List UInt8) : Bool := x.all (fun b => b != 32)
theorem noB_out {x : List UInt8} (h : noB x = true) : ∀ b ∈ x, b ≠ 32 := fun b hb => by
 have := List.all_eq_true.1 h b hb
 simpa using this
theorem noB_getD {l : List (List UInt8)} (h : l.all noB = true) (i : Nat) : noB (l.getD i []) = true := by
 rw [List.getD_eq_getElem?_getD]
 cases hi : l[i]? with
 | none => rfl
 | some x => exact List.all_eq_true.1 h x (List.mem_of_getElem? hi)
theorem num_all {p : Int → Bool} (h : (List.range 199).all (fun (i : Nat) => p ((i : Int) - 99)) = true) {c : Int} (h1 : -99 ≤ c) (h2 : c ≤ 99) : p c = true := by
 have := List.all_eq_true.1 h (c + 99).toNat (by rw [List.mem_range]; omega)
 rwa [show (((c + 99).toNat : Nat) : Int) - 99 = c by omega] at this
theorem noB_dig {c : Int} (h1 : -99 ≤ c) (h2 : c ≤ 99) : noB (dig c) = true := num_all (p := fun c => noB (dig c)) (by decide +kernel) h1 h2
theorem noB_sN (s : Int) : noB (sN s) = true := noB_getD (by decide) _
theorem noB_tN (s : Int) : noB (tN s) = true := noB_getD (by decide) _
theorem noB_name {x : List UInt8} (h : isName x = true) : noB x = true := by
 simp only [isName, Bool.and_eq_true] at h
 refine List.all_eq_true.2 fun b hb => ?_
 have h1 := List.all_eq_true.1 h.2 b hb
 have h2 : cutset.contains 32 = false := by decide
 rw [bne_iff_ne]
 rintro rfl
 rw [h2] at h1
 cases h1
theorem all_opt {p : List UInt8 → Bool} {L : List (List UInt8)} {u : Bool} {x : List UInt8} (h : L.all p = true) (hx : u = true → p x = true) : (L ++ optL u x).all p = true := by
 cases u
 · simpa [optL] using h
 · simp only [optL, if_true, List.all_append, h, List.all_cons, hx rfl, List.all_nil, Bool.and_self]
theorem W5_noB {w v m c s t k : Int} {nm : List UInt8} (h : chk w v m c s t k nm = 0) (i j l : Nat) : (W5 i j l v m c s t k nm).all noB = true := by
 obtain ⟨_, hC, hS, hT, hM, hN⟩ := chk_zero h
 obtain ⟨_, _, _, _, _, hN'⟩ := chk_rest h
 unfold W5
 refine all_opt (all_opt (all_opt (all_opt (all_opt ?_ fun hu => ?_) fun hu => noB_sN s) fun hu => noB_tN t) fun hu => ?_) fun hu => noB_name (hN' hu)
 · unfold W0
   simp only [List.all_cons, List.all_nil, Bool.and_true]
   rw [noB_getD (l := whenL) (by decide), noB_getD (l := verbL) (by decide), noB_getD (l := whomL) (by decide)]; rfl
 · exact noB_dig (hC hu).1 (hC hu).2
 · have := hM hu; exact noB_dig (by omega) (by omega)
def R5 (v m c s t k : Int) (nm : List UInt8) : List (List UInt8) := optL (uC v) (dig c) ++ (optL (uS v m) (sN s) ++ (optL (uT v m) (tN t) ++ (optL (uM v) (dig k) ++ optL (uN v) nm)))
theorem W5_eq (i j l : Nat) (v m c s t k : Int) (nm : List UInt8) : W5 i j l v m c s t k nm = whenL.getD i [] :: verbL.getD j [] :: whomL.getD l [] :: R5 v m c s t k nm := by
 simp [W5, W0, R5]
theorem nextR_opt (u : Bool) (x : List UInt8) (R : List (List UInt8)) : nextR u (optL u x ++ R) = R := by cases u <;> simp [nextR, optL]
theorem nextW_opt (u : Bool) (x : List UInt8) (R : List (List UInt8)) : nextW u (optL u x ++ R) = if u = true then x else [] := by cases u <;> simp [nextW, optL]
theorem nextW_opt0 (u : Bool) (x : List UInt8) : nextW u (optL u x) = if u = true then x else [] := by cases u <;> simp [nextW, optL]
theorem pos_all {l : List (List UInt8)} (h : (List.range l.length).all (fun i => decide (posI l (l.getD i []) = (i : Int))) = true) {i : Nat} (hi : i < l.length) : posI l (l.getD i []) = (i : Int) := by
 simpa using List.all_eq_true.1 h i (List.mem_range.2 hi)
structure RTold (atoiV : List UInt8 → Int) (sf : List UInt8 → Int × Bool) : Prop where
 num : ∀ c : Int, -99 ≤ c → c ≤ 99 → atoiV (dig c) = c
 none : atoiV [] = 0
 suit : ∀ s : Int, 1 ≤ s → s ≤ 6 → (sf (sN s)).1 = s
 nosuit : (sf []).1 = 0
theorem trait_of (t : Int) (h1 : 1 ≤ t) (h2 : t ≤ 8) : (traitOf (tN t)).1 = t := by
 have : ∀ i : Fin 8, (traitOf (tN ((i.val : Int) + 1))).1 = (i.val : Int) + 1 := by decide +kernel
 have := this ⟨(t - 1).toNat, by omega⟩
 simp only [show (((t - 1).toNat : Nat) : Int) + 1 = t by omega] at this
 exact this
theorem trait_none : (traitOf []).1 = 0 := by decide +kernel
theorem clamp_small {k : Int} (h1 : 0 ≤ k) (h2 : k ≤ 9) : clamp k = k := by unfold clamp; (repeat' split) <;> omega
theorem back_read {atoiV : List UInt8 → Int} {sf : List UInt8 → Int × Bool} (A : RTold atoiV sf) {w v m c s t k : Int} {nm : List UInt8} (h : chk w v m c s t k nm = 0) :
    rC atoiV v m (R5 v m c s t k nm) = c ∧ rS sf v m (R5 v m c s t k nm) = s ∧ rT v m (R5 v m c s t k nm) = t ∧ rK atoiV v m (R5 v m c s t k nm) = k ∧ rN v m (R5 v m c s t k nm) = nm := by
 obtain ⟨_, hC, hS, hT, hM, hN⟩ := chk_zero h
 obtain ⟨zC, zS, zT, zM, zN, _⟩ := chk_rest h
 unfold rC rS rT rK rN q4 q3 q2 q1 R5
 rw [nextW_opt, nextR_opt, nextW_opt, nextR_opt, nextW_opt, nextR_opt, nextW_opt, nextR_opt, nextW_opt0]
 refine ⟨?_, ?_, ?_, ?_, ?_⟩
 · cases hu : uC v with
   | true => exact A.num c (hC hu).1 (hC hu).2
   | false => rw [zC hu]; exact A.none
 · cases hu : uS v m with
   | true => exact A.suit s (hS hu).1 (hS hu).2
   | false => rw [zS hu]; exact A.nosuit
 · cases hu : uT v m with
   | true => exact trait_of t (hT hu).1 (hT hu).2
   | false => rw [zT hu]; exact trait_none
 · cases hu : uM v with
   | true =>
     have := hM hu
     simp only [if_true]
     rw [A.num k (by omega) (by omega)]
     exact clamp_small (by omega) (by omega)
   | false =>
     rw [zM hu]
     simp only [Bool.false_eq_true, if_false]
     rw [A.none]
     rfl
 · cases hu : uN v with
   | true => rfl
   | false => rw [zN hu]; rfl
theorem back_text {pieces : List UInt8 → List (List UInt8)} {atoiV : List UInt8 → Int} {sf : List UInt8 → Int × Bool} (A : RTold atoiV sf) (hp : ∀ W : List (List UInt8), W ≠ [] → W.all noB = true → pieces (Lib.join W [32]) = W) {w v m c s t k : Int} {nm : List UInt8} (h : chk w v m c s t k nm = 0) :
    ∃ R, pieces (txtP w v m c s t k nm) = whenL.getD (w - 1).toNat [] :: verbL.getD (v - 1).toNat [] :: whomL.getD (m - 1).toNat [] :: R ∧ rW (pieces (txtP w v m c s t k nm)) = w ∧ rV (pieces (txtP w v m c s t k nm)) = v ∧ rM (pieces (txtP w v m c s t k nm)) = m ∧
     okP atoiV sf v m w R (txtP w v m c s t k nm) = true ∧ partR atoiV sf v m w R = part w v m c s t k nm := by
 obtain ⟨hb, _⟩ := chk_zero h
 obtain ⟨e1, e2, e3, e4, e5⟩ := back_read A h
 have eP : pieces (txtP w v m c s t k nm) = whenL.getD (w - 1).toNat [] :: verbL.getD (v - 1).toNat [] :: whomL.getD (m - 1).toNat [] :: R5 v m c s t k nm := by
  unfold txtP
  rw [if_pos h, ← join_W5, hp _ (W5_ne _ _ _ _ _ _ _ _ _ _) (W5_noB h _ _ _), W5_eq]
 refine ⟨R5 v m c s t k nm, eP, ?_, ?_, ?_, ?_, ?_⟩
 · rw [eP]; unfold rW
   rw [show (whenL.getD (w - 1).toNat [] :: verbL.getD (v - 1).toNat [] :: whomL.getD (m - 1).toNat [] :: R5 v m c s t k nm).getD 0 [] = whenL.getD (w - 1).toNat [] from rfl, pos_all (l := whenL) (by decide +kernel) (by show (w - 1).toNat < 6; omega)]
   omega
 · rw [eP]; unfold rV
   rw [show (whenL.getD (w - 1).toNat [] :: verbL.getD (v - 1).toNat [] :: whomL.getD (m - 1).toNat [] :: R5 v m c s t k nm).getD 1 [] = verbL.getD (v - 1).toNat [] from rfl, pos_all (l := verbL) (by decide +kernel) (by show (v - 1).toNat < 19; omega)]
   omega
 · rw [eP]; unfold rM
   rw [show (whenL.getD (w - 1).toNat [] :: verbL.getD (v - 1).toNat [] :: whomL.getD (m - 1).toNat [] :: R5 v m c s t k nm).getD 2 [] = whomL.getD (m - 1).toNat [] from rfl, pos_all (l := whomL) (by decide +kernel) (by show (m - 1).toNat < 10; omega)]
   omega
 · unfold okP
   rw [e1, e2, e3, e4, e5]
   simp [h]
 · unfold partR
   rw [e1, e2, e3, e4, e5]
theorem sN_len5 (s : Int) : (sN s).length ≤ 5 := getD_len (by decide) _
theorem tN_len5 (s : Int) : (tN s).length ≤ 5 := getD_len (by decide) _
theorem T5_len80 (i j l : Nat) (v m c s t k : Int) (nm : List UInt8) (h : uN v = true → nm.length ≤ 20) : (T5 i j l v m c s t k nm).length ≤ 80 := by
 have h0 := T0_len i j l
 have h1 := optT_len (uC v) (dig c) fun _ => dig_len c
 have h2 := optT_len (uS v m) (sN s) fun _ => sN_len5 s
 have h3 := optT_len (uT v m) (tN t) fun _ => tN_len5 t
 have h4 := optT_len (uM v) (dig k) fun _ => dig_len k
 have h5 := optT_len (uN v) nm h
 unfold T5
 simp only [List.length_append]
 omega
theorem txtP_len80 (w v m c s t k : Int) (nm : List UInt8) : (txtP w v m c s t k nm).length ≤ 80 := by
 unfold txtP
 split
 · rename_i h
   exact T5_len80 _ _ _ _ _ _ _ _ _ _ (chk_zero h).2.2.2.2.2
 · simp
theorem wrap_small {n : Int} (h1 : -100000 ≤ n) (h2 : n ≤ 100000) : IntKind.wrap .i64 n = n := by
 have e3 : IntKind.bits .i64 = 64 := rfl
 have e4 : IntKind.signed .i64 = true := rfl
 have hp : (2 : Int) ^ 64 = 18446744073709551616 := by decide
 have hp2 : (2 : Int) ^ 63 = 9223372036854775808 := by decide
 unfold IntKind.wrap
 simp only [e3, e4, Bool.true_and, hp, hp2]
 split <;> (rename_i hc; simp at hc; omega)
theorem kp_settle2 {N : Nat} {h h' : AH} {v : AV} (g1 : h.n ≤ h'.n) (g2 : ∀ b, b < h.n → h'.get b = h.get b) (g3 : N ≤ h'.low) : Kp N h (Fs.settle h h' v).2 := by
 unfold Fs.settle
 split
 · exact ⟨Nat.le_refl _, fun _ _ => rfl, fun _ h => h⟩
 · exact ⟨by simpa using g1, fun b hb => by simpa using g2 b hb, fun h1 h2 => by simp; omega⟩
end Go.Proofs.Ef
