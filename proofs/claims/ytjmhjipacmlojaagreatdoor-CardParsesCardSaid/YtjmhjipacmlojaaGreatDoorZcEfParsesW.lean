/- The law 'any text' of a part, by its walk: the reference reads what the code reads. -/
import Derived.Test.YtjmhjipacmlojaaGreatDoorFz05
import Derived.Test.YtjmhjipacmlojaaGreatDoorZcEfRPr
import Derived.Test.YtjmhjipacmlojaaGreatDoorZcEfBackW
namespace Go.Proofs.Ef
set_option maxRecDepth 100000
set_option maxHeartbeats 32000000
open Go Go.Fs
set_option linter.unusedSimpArgs false
set_option linter.unusedVariables false
variable {orc : Orc}
def cf4 : CF := ⟨28, [(.tmp 2)], (.seq (.region [Zo 2 (.mv (.c (.bool false)))]) (.seq (.region [Zm 8 0, Zo 9 (.call (.f 20) [(.t 8)]), Zm 7 9, Ze 10 0 7, Ze 11 1 7, Zo 3 (.alloc [(.int .u8 0), (.int .u8 0), (.int .u8 0), (.int .i64 0), (.int .u8 0), (.int .u8 0), (.int .u8 0), (.str [])]), Zn (.store 8 (.t 3) (.t 10)), Zm 4 11]) (.seq (.region [Zm 13 0, Zo 14 (.call (.f 21) [(.t 13)]), Zm 12 14, Ze 15 0 12, Ze 16 1 12, Zo 5 (.alloc [(.int .u8 0), (.int .u8 0), (.int .u8 0), (.int .i64 0), (.int .u8 0), (.int .u8 0), (.int .u8 0), (.str [])]), Zn (.store 8 (.t 5) (.t 15)), Zm 6 16]) (.seq (.region [Zo 17 (.call (.f 22) []), Zm 18 17, Zg 19 (.mv (.t 4)) 18 true, Zg 20 (.mv (.t 6)) 18 true, Zg 21 (.bin .eql .other (.t 19) (.t 20)) 18 true, Zo 22 (.pick (.t 18) (.t 21) (.c (.bool false))), Zm 23 22, Zg 24 (.load (some 8) (.t 3)) 23 true, Zg 25 (.load (some 8) (.t 5)) 23 true, Zg 26 (.bin .eql (.agg 8 [(0, .i), (1, .i), (2, .i), (3, .i), (4, .i), (5, .i), (6, .i), (7, .s)]) (.t 24) (.t 25)) 23 true, Zo 27 (.pick (.t 23) (.t 26) (.c (.bool false))), Zm 2 27]) .ret))))⟩
theorem tbl4 : tbl Tryz.prog 4 = some cf4 := by kernel_rfl
theorem read_few (ho : orc 58 = none) (n b : Nat) (cap : Cap) (h3 : n < 3) (h : AH) : acall orc T 58 [.slice (some (b, 0)) n cap] h = some (.agg zeroP, h) := by
 refine acall_sym ho tbl58 ?_
 have l1 : decide ((n : Int) < 3) = true := by rw [decide_eq_true_eq]; omega
 unfold zeroP part
 refine GD ?_
 (have fct := Fj @l1 @Fs.over.eq_1; refine GO ?_; clear fct)
 (have fct := trivial; refine A_end ?_; clear fct; try exact trivial)
section
variable (s : List UInt8)
def okR (w v m : Int) (R : List (List UInt8)) : Bool := decide (chk w v m (xC v R) (xS v m R) (xT v m R) (xK v m R) (xN v m R) = 0 ∧ txtP w v m (xC v R) (xS v m R) (xT v m R) (xK v m R) (xN v m R) = s)
def rprs : List AV × Int :=
 if s.length ≤ 80 ∧ 3 ≤ (Lib.split s [32]).length then
  if okR s (rW (Lib.split s [32])) (rV (Lib.split s [32])) (rM (Lib.split s [32])) ((Lib.split s [32]).drop 3) = true then (stP (rW (Lib.split s [32])) (rV (Lib.split s [32])) (rM (Lib.split s [32])) ((Lib.split s [32]).drop 3) 5, 0) else (zeroP, 150)
 else (zeroP, if s.length ≤ 80 then 150 else 3)
end
theorem suitR_range (x : List UInt8) : 0 ≤ (suitR x).1 ∧ (suitR x).1 ≤ 255 := by
 unfold suitR
 split
 · rename_i i hi
   have := List.mem_of_find?_eq_some hi
   rw [List.mem_range] at this
   simp only; omega
 · simp
theorem traitOf_range (x : List UInt8) : 0 ≤ (traitOf x).1 ∧ (traitOf x).1 ≤ 255 := by
 unfold traitOf
 split
 · rename_i i hi
   have := List.mem_of_find?_eq_some hi
   rw [List.mem_range] at this
   simp only; omega
 · simp
theorem markR_range (n : Int) : 0 ≤ markR n ∧ markR n ≤ 255 := by
 unfold markR
 have e3 : IntKind.bits .u8 = 8 := rfl
 have e4 : IntKind.signed .u8 = false := rfl
 have hp : (2 : Int) ^ 8 = 256 := by decide
 unfold IntKind.wrap
 simp only [e3, e4, Bool.false_and, hp, Bool.false_eq_true, if_false]
 omega
theorem rparse_spec {h0 : AH} (ho : ∀ f, f ∈ [21, 59, 58, 102, 103, 104, 105, 120, 42, 86, 87, 88, 89, 121, 91, 92, 93, 94, 95, 96, 46] → orc f = none) (hT : Told orc h0) (s : List UInt8) {h : AH} (hg : Grown h0 h) :
    acall orc T 21 [.str s] h = some (.tuple [.agg (rprs s).1, .int .i64 (rprs s).2], h) := by
 have sub : ∀ l : List Nat, (∀ f ∈ l, f ∈ [21, 59, 58, 102, 103, 104, 105, 120, 42, 86, 87, 88, 89, 121, 91, 92, 93, 94, 95, 96, 46]) → ∀ f, f ∈ l → orc f = none := fun l hl f hf => ho f (hl f hf)
 refine acall_sym (ho _ (by simp)) tbl21 ?_
 by_cases hlen : s.length ≤ 80
 case neg =>
  have l1 : decide ((80 : Int) < (s.length : Int)) = true := by rw [decide_eq_true_eq]; omega
  have e : rprs s = (zeroP, 3) := by unfold rprs; rw [if_neg (by simp [hlen]), if_neg hlen]
  rw [e]
  unfold zeroP part
  refine GD ?_
  (have fct := Fj @l1 @Fs.over.eq_1; refine GO ?_; clear fct)
  (have fct := trivial; refine A_end ?_; clear fct; try exact trivial)
 case pos =>
 have l1 : decide ((80 : Int) < (s.length : Int)) = false := by rw [decide_eq_false_iff_not]; omega
 have hsl := (Plain.split_len s).1
 obtain ⟨w, v, m, c, u, t, k, nm, B, hu, ht, hk, hq, hB, hcand⟩ : ∃ (w v m c u t k : Int) (nm : List UInt8) (B : Bool), (0 ≤ u ∧ u ≤ 255) ∧ (0 ≤ t ∧ t ≤ 255) ∧ (0 ≤ k ∧ k ≤ 255) ∧ rprs s = (if B = true then part w v m c u t k nm else zeroP, if B = true then 0 else 150) ∧ (B = true ↔ (chk w v m c u t k nm = 0 ∧ txtP w v m c u t k nm = s)) ∧
     ∀ (b : Nat) (cap : Cap) (hh : AH), hh.get b = some (.cells ((Lib.split s [32]).map AV.str) false) → b < hh.n → Grown h0 hh → acall orc T 58 [.slice (some (b, 0)) (Lib.split s [32]).length cap] hh = some (.agg (part w v m c u t k nm), hh) := by
  by_cases h3 : 3 ≤ (Lib.split s [32]).length
  · refine ⟨rW (Lib.split s [32]), rV (Lib.split s [32]), rM (Lib.split s [32]), xC (rV (Lib.split s [32])) ((Lib.split s [32]).drop 3), xS (rV (Lib.split s [32])) (rM (Lib.split s [32])) ((Lib.split s [32]).drop 3), xT (rV (Lib.split s [32])) (rM (Lib.split s [32])) ((Lib.split s [32]).drop 3), xK (rV (Lib.split s [32])) (rM (Lib.split s [32])) ((Lib.split s [32]).drop 3), xN (rV (Lib.split s [32])) (rM (Lib.split s [32])) ((Lib.split s [32]).drop 3), okR s (rW (Lib.split s [32])) (rV (Lib.split s [32])) (rM (Lib.split s [32])) ((Lib.split s [32]).drop 3), suitR_range _, traitOf_range _, markR_range _, ?_, decide_eq_true_iff, fun b cap hh k1 k2 k3 => ?_⟩
    · unfold rprs
      rw [if_pos ⟨hlen, h3⟩]
      cases okR s (rW (Lib.split s [32])) (rV (Lib.split s [32])) (rM (Lib.split s [32])) ((Lib.split s [32]).drop 3) <;> rfl
    · exact read_spec hh.n (sub _ (by decide)) hT _ b cap (by omega) h3 rfl k3 k1 k2
  · refine ⟨0, 0, 0, 0, 0, 0, 0, [], false, by decide, by decide, by decide, ?_, ⟨fun e => by (cases e), fun e => absurd e.1 (by decide)⟩, fun b cap hh k1 k2 k3 => read_few (ho _ (by simp)) _ b cap (by omega) hh⟩
    unfold rprs
    rw [if_neg (by simp [h3]), if_pos hlen]
    rfl
 rw [hq]
 clear hq
 refine GD ?_
 (have fct := @l1; refine GO ?_; clear fct)
 refine R_ex (by simp (maxDischargeDepth := 12) only [opsB, Nat.reduceEqDiff, Nat.reduceBEq, Nat.reduceBNe, Int.reduceBEq, Int.reduceBNe, Int.reduceLT, Int.reduceLE, Int.reduceEq, AV.one, AV.cells, CA.ev, abin, aint, aun, isShift, readVar, readCell, readCells, writeCells, fillA, reduceIte, Nat.reduceAdd, Nat.reduceSub, Nat.reduceLT, Nat.reduceLeDiff, resAll, resOne, AV.under, AV.unders, cut]; (first | done | with_reducible rfl)) (cut_spec h.n (ho _ (by simp)) s (by omega) (by simp)) fun v1 H1 hh => ?_
 obtain ⟨b, cap, rfl, g1, k1, k2, k3, kp⟩ := hh
 refine A_tm ?_
 have gr : Grown h0 H1 := Grown.kp ((hg.low _).push _) kp
 have g2 := kp.get h.n (by simp)
 rw [show ((h.withLow h.n).push (Blk.cells [.int .u8 0, .int .u8 0, .int .u8 0, .int .i64 0, .int .u8 0, .int .u8 0, .int .u8 0, .str []] false)).get h.n = some (Blk.cells zeroP false) from Hp.get_push_self _ _] at g2
 have lo := kp.low (by simp) (by simp)
 have hn := kp.n
 simp only [Hp.n_push, Hp.n_withLow] at hn
 have cr := hcand b cap H1 g1 k2 gr
 have cp := rprint_spec (orc := orc) (sub _ (by decide)) hT w v m c u t k nm hu ht hk ((gr.push (.cells zeroP false)).set (k := H1.n) (by have := gr.1; omega) (.cells (part w v m c u t k nm) false))
 have y1 : (h.n = H1.n) = False := by simp; omega
 clear hcand kp g1 k3 sub
 have eZ : zeroP = [.int .u8 0, .int .u8 0, .int .u8 0, .int .i64 0, .int .u8 0, .int .u8 0, .int .u8 0, .str []] := rfl
 rw [eZ] at cp
 generalize hX : chk w v m c u t k nm = X at *
 generalize hY : txtP w v m c u t k nm = Y at *
 unfold zeroP at g2 ⊢
 by_cases hX0 : X = 0
 case neg =>
  have x1 : (X != 0) = true := by simpa using hX0
  have x2 : B = false := by rw [Bool.eq_false_iff]; exact fun e => hX0 (hB.1 e).1
  subst x2
  (have fct := Fj @cr (Fj @cp (Fj @x1 (Fj @g2 (Fj @y1 (Fj @over_e (Fj @over_8 (Fj @part_len (Fj @part_take (Fj @part_one fsAstr))))))))); refine GO ?_; clear fct)
  (have fct := Fj @part_take (Fj @part_len (Fj @part_under (Fj @over_8 (Fj @g2 @y1)))); refine A_end ?_; clear fct; try exact trivial)
  all_goals exact ⟨⟨lo, by omega⟩, rfl⟩
 case pos =>
 have x1 : (X != 0) = false := by simp [hX0]
 by_cases hYs : Y = s
 case neg =>
  have x2 : B = false := by rw [Bool.eq_false_iff]; exact fun e => hYs (hB.1 e).2
  have x3 : (!decide (Y = s)) = true := by simp [hYs]
  subst x2
  (have fct := Fj @cr (Fj @cp (Fj @x1 (Fj @x3 (Fj @g2 (Fj @y1 (Fj @over_e (Fj @over_8 (Fj @part_len (Fj @part_take (Fj @part_one fsAstr)))))))))); refine GO ?_; clear fct)
  (have fct := Fj @part_take (Fj @part_len (Fj @part_under (Fj @over_8 (Fj @g2 @y1)))); refine A_end ?_; clear fct; try exact trivial)
  all_goals exact ⟨⟨lo, by omega⟩, rfl⟩
 case pos =>
  have x2 : B = true := hB.2 ⟨hX0, hYs⟩
  have x3 : (!decide (Y = s)) = false := by simp [hYs]
  subst x2
  (have fct := Fj @cr (Fj @cp (Fj @x1 (Fj @x3 (Fj @g2 (Fj @y1 (Fj @over_e (Fj @over_8 (Fj @part_len (Fj @part_take (Fj @part_one fsAstr)))))))))); refine GO ?_; clear fct)
  (have fct := Fj @part_take (Fj @part_len (Fj @part_under (Fj @over_8 (Fj @g2 @y1)))); refine A_end ?_; clear fct; try exact trivial)
  all_goals first | exact ⟨⟨lo, by omega⟩, rfl⟩ | exact ⟨lo, by omega⟩
theorem ref_read {w v m c s t k : Int} {nm : List UInt8} (h : chk w v m c s t k nm = 0) :
    xC v (R5 v m c s t k nm) = c ∧ xS v m (R5 v m c s t k nm) = s ∧ xT v m (R5 v m c s t k nm) = t ∧ xK v m (R5 v m c s t k nm) = k ∧ xN v m (R5 v m c s t k nm) = nm := by
 obtain ⟨_, hC, hS, hT, hM, hN⟩ := chk_zero h
 obtain ⟨zC, zS, zT, zM, zN, _⟩ := chk_rest h
 have num : ∀ c : Int, -99 ≤ c → c ≤ 99 → numF (dig c) = c := fun c h1 h2 => by
  have := num_all (p := fun c => decide (numF (dig c) = c)) (by decide +kernel) h1 h2
  simpa using this
 unfold xC xS xT xK xN q4 q3 q2 q1 R5
 rw [nextW_opt, nextR_opt, nextW_opt, nextR_opt, nextW_opt, nextR_opt, nextW_opt, nextR_opt, nextW_opt0]
 refine ⟨?_, ?_, ?_, ?_, ?_⟩
 · cases hu : uC v with
   | true => exact num c (hC hu).1 (hC hu).2
   | false => rw [zC hu]; exact numF_nil
 · cases hu : uS v m with
   | true =>
     have : ∀ i : Fin 6, (suitR (sN ((i.val : Int) + 1))).1 = (i.val : Int) + 1 := by decide +kernel
     have := this ⟨(s - 1).toNat, by have := hS hu; omega⟩
     simp only [show (((s - 1).toNat : Nat) : Int) + 1 = s by have := hS hu; omega] at this
     exact this
   | false => rw [zS hu]; exact suitR_nil
 · cases hu : uT v m with
   | true => exact trait_of t (hT hu).1 (hT hu).2
   | false => rw [zT hu]; exact trait_none
 · cases hu : uM v with
   | true =>
     have := hM hu
     simp only [if_true]
     rw [num k (by omega) (by omega)]
     have hk : k = 1 ∨ k = 2 ∨ k = 3 ∨ k = 4 := by omega
     rcases hk with rfl | rfl | rfl | rfl <;> decide +kernel
   | false =>
     rw [zM hu]
     simp only [Bool.false_eq_true, if_false]
     rw [numF_nil, markR_zero]
 · cases hu : uN v with
   | true => rfl
   | false => rw [zN hu]; rfl
theorem prs_eq {atoiV : List UInt8 → Int} {sf : List UInt8 → Int × Bool} (A : RTold atoiV sf) (s : List UInt8) : rprs s = prs (fun s => Lib.split s [32]) atoiV sf s := by
 unfold rprs prs
 dsimp only
 by_cases h3 : s.length ≤ 80 ∧ 3 ≤ (Lib.split s [32]).length
 case neg => rw [if_neg h3, if_neg h3]
 case pos =>
 rw [if_pos h3, if_pos h3]
 obtain ⟨L, hL⟩ : ∃ L, Lib.split s [32] = L := ⟨_, rfl⟩
 simp only [hL] at h3 ⊢
 have key : ∀ (w v m c u t k : Int) (nm : List UInt8), chk w v m c u t k nm = 0 → txtP w v m c u t k nm = s → rW L = w → rV L = v → rM L = m → L.drop 3 = R5 v m c u t k nm := by
  intro w v m c u t k nm h1 h2 _ _ _
  unfold txtP at h2
  rw [if_pos h1, ← join_W5] at h2
  have h5 := Plain.split_join (W5_ne (w - 1).toNat (v - 1).toNat (m - 1).toNat v m c u t k nm) fun x hx => noB_out (List.all_eq_true.1 (W5_noB h1 _ _ _) x hx)
  rw [h2, hL, W5_eq] at h5
  rw [h5]; rfl
 cases ha : okP atoiV sf (rV L) (rM L) (rW L) (L.drop 3) s with
 | true =>
   have hk := of_decide_eq_true ha
   have hR := key _ _ _ _ _ _ _ _ hk.1 hk.2 rfl rfl rfl
   obtain ⟨e1, e2, e3, e4, e5⟩ := ref_read hk.1
   rw [← hR] at e1 e2 e3 e4 e5
   have hb : okR s (rW L) (rV L) (rM L) (L.drop 3) = true := by
    unfold okR
    rw [e1, e2, e3, e4, e5]
    exact decide_eq_true hk
   rw [hb, if_pos rfl, if_pos rfl]
   show (part _ _ _ _ _ _ _ _, _) = _
   rw [e1, e2, e3, e4, e5]
   rfl
 | false =>
   cases hb : okR s (rW L) (rV L) (rM L) (L.drop 3) with
   | false => rfl
   | true =>
     exfalso
     have hk := of_decide_eq_true hb
     have hR := key _ _ _ _ _ _ _ _ hk.1 hk.2 rfl rfl rfl
     obtain ⟨e1, e2, e3, e4, e5⟩ := back_read A hk.1
     rw [← hR] at e1 e2 e3 e4 e5
     have : okP atoiV sf (rV L) (rM L) (rW L) (L.drop 3) s = true := by
      unfold okP
      rw [e1, e2, e3, e4, e5]
      exact decide_eq_true hk
     rw [this] at ha
     cases ha
theorem parses_spec {h0 : AH} {atoiV : List UInt8 → Int} {sf : List UInt8 → Int × Bool} (ho : ∀ f, f ∈ [4, 20, 52, 53, 57, 23, 51, 24, 54, 61, 62, 63, 64, 65, 66, 67, 68, 106, 107, 108, 21, 59, 58, 102, 103, 104, 105, 120, 42, 86, 87, 88, 89, 121, 91, 92, 93, 94, 95, 96, 46] → orc f = none)
    (ht : Trims orc) (hF : Flds orc h0) (hJ : Joins orc) (hT : Told orc h0) (hP : PTold orc h0 (fun s => Lib.split s [32]) atoiV sf) (A : RTold atoiV sf) (hp : ∀ W : List (List UInt8), W ≠ [] → W.all noB = true → (fun s => Lib.split s [32]) (Lib.join W [32]) = W) (hL : ∀ h, Grown h0 h → acall orc T 22 [] h = some (.bool true, h))
    (x : List UInt8) {h : AH} (hg : Grown h0 h) :
    acall orc T 4 [.str x] h = some (.bool true, h) := by
 have sub : ∀ l : List Nat, (∀ f ∈ l, f ∈ [4, 20, 52, 53, 57, 23, 51, 24, 54, 61, 62, 63, 64, 65, 66, 67, 68, 106, 107, 108, 21, 59, 58, 102, 103, 104, 105, 120, 42, 86, 87, 88, 89, 121, 91, 92, 93, 94, 95, 96, 46]) → ∀ f, f ∈ l → orc f = none := fun l hl f hf => ho f (hl f hf)
 have cR := fun (y : List UInt8) (hh : AH) (g : Grown h0 hh) => parse_spec (orc := orc) (sub _ (by decide)) ht hF hJ hT hP y g
 have cQ := fun (y : List UInt8) (hh : AH) (g : Grown h0 hh) => rparse_spec (orc := orc) (sub _ (by decide)) hT y g
 have g0 := hg.1
 rw [show rprs = prs (fun s => Lib.split s [32]) atoiV sf from funext (prs_eq A)] at cQ
 obtain ⟨w, v, m, c, u, t, k, nm, e, he⟩ : ∃ w v m c u t k nm e, prs (fun s => Lib.split s [32]) atoiV sf x = (part w v m c u t k nm, e) := by
  rcases prs_cases (fun s => Lib.split s [32]) atoiV sf x with ⟨w, v, m, c, u, t, k, nm, _, _, h3⟩ | ⟨e, _, h3⟩
  · exact ⟨_, _, _, _, _, _, _, _, _, h3⟩
  · exact ⟨0, 0, 0, 0, 0, 0, 0, [], e, h3⟩
 refine acall_sym (ho _ (by simp)) tbl4 ?_
 clear sub ht hF hJ hT hP ho
 refine GD ?_
 (have fct := Fj @cR (Fj @cQ (Fj @hL (Fj @hg (Fj @he (Fj @Grown.low (Fj @Grown.push (Fj @Grown.set (Fj @Nat.le_add_right_of_le (Fj @g0 (Fj @part_0 (Fj @part_1 (Fj @part_2 (Fj @part_3 (Fj @part_4 (Fj @part_5 (Fj @part_6 (Fj @part_7 (Fj @part_one (Fj @box_part (Fj @part_len (Fj @part_take (Fj @over_e (Fj fsAstr @dec_self))))))))))))))))))))))); refine GO ?_; clear fct)
 (have fct := trivial; refine A_end ?_; clear fct; try exact trivial)
end Go.Proofs.Ef
