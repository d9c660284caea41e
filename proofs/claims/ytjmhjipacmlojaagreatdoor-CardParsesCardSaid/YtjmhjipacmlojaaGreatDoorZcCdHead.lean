/- What stands ahead of a card's parts, as the reference reads it. -/
import Derived.Test.YtjmhjipacmlojaaGreatDoorFz05
import Derived.Test.YtjmhjipacmlojaaGreatDoorZcCdNum
namespace Go.Proofs.Cards
set_option maxRecDepth 100000
set_option maxHeartbeats 32000000
open Go Go.Fs
set_option linter.unusedSimpArgs false
set_option linter.unusedVariables false
variable {orc : Orc}
def cf72 : CF := ⟨109, [(.cell 2 (some 9))], (.seq (.region [Zo 2 (.alloc [(.str []), (.int .u8 0), (.int .u8 0), (.int .i64 0), (.int .i64 0), (.int .i64 0), (.int .u16 0), (.bool false), (.slice none 0 (.exact 0))])]) (.seq (.region [Zo 3 (.alloc [(.str []), (.int .u8 0), (.int .u8 0), (.int .i64 0), (.int .i64 0), (.int .i64 0), (.int .u16 0), (.bool false), (.slice none 0 (.exact 0))])]) (.seq (.seq (.region [Zo 4 (.mv (.c (.int .i64 0)))]) (.block 0 (.loop (.seq (.seq (.region [Zm 9 4, Zm 10 0, Zo 11 (.lenV (.t 10)), Zb 12 .lss (.t 9) (.t 11)]) (.cond (.t 12) .skip (.exit 0))) (.seq (.block 1 (.seq (.region [Zm 15 0, Zm 16 4, Zo 17 (.iaddrS 1 (.t 15) (.t 16)), Zl 18 17, Zm 5 18]) (.seq (.region [Zm 19 5, Zo 20 (.call (.f 71) [(.t 19), (.c (.str [47]))]), Zm 6 20]) (.block 2 (.seq (.region [Zm 22 4, Zb 23 .eql (.t 22) (.c (.int .i64 0)), Zm 21 23]) (.cond (.t 21) (.region [Zm 24 5, Zf 25 0 3, Zn (.store 1 (.t 25) (.t 24))]) (.seq (.region [Zm 27 4, Zb 28 .eql (.t 27) (.c (.int .i64 1)), Zm 26 28]) (.cond (.t 26) (.region [Zm 30 5, Zo 31 (.call (.f 104) [(.t 30)]), Zm 29 31, Ze 32 0 29, Ze 33 1 29, Zf 34 1 3, Zn (.store 1 (.t 34) (.t 32))]) (.seq (.region [Zm 36 4, Zb 37 .eql (.t 36) (.c (.int .i64 2)), Zm 38 37, Zg 39 (.mv (.t 5)) 38 true, Zg 40 (.bin .eql .other (.t 39) (.c (.str [117, 110, 105, 116]))) 38 true, Zo 41 (.pick (.t 38) (.t 40) (.c (.bool false))), Zm 35 41]) (.cond (.t 35) (.region [Zf 42 2 3, Zn (.store 1 (.t 42) (.c (.int .u8 1)))]) (.seq (.region [Zm 44 4, Zb 45 .eql (.t 44) (.c (.int .i64 2)), Zm 46 45, Zg 47 (.mv (.t 5)) 46 true, Zg 48 (.bin .eql .other (.t 47) (.c (.str [115, 112, 101, 108, 108]))) 46 true, Zo 49 (.pick (.t 46) (.t 48) (.c (.bool false))), Zm 43 49]) (.cond (.t 43) (.region [Zf 50 2 3, Zn (.store 1 (.t 50) (.c (.int .u8 2)))]) (.seq (.region [Zm 52 4, Zb 53 .eql (.t 52) (.c (.int .i64 2)), Zm 54 53, Zg 55 (.mv (.t 5)) 54 true, Zg 56 (.bin .eql .other (.t 55) (.c (.str [114, 101, 108, 105, 99]))) 54 true, Zo 57 (.pick (.t 54) (.t 56) (.c (.bool false))), Zm 51 57]) (.cond (.t 51) (.region [Zf 58 2 3, Zn (.store 1 (.t 58) (.c (.int .u8 3)))]) (.seq (.region [Zm 60 4, Zb 61 .eql (.t 60) (.c (.int .i64 3)), Zm 59 61]) (.cond (.t 59) (.region [Zm 62 5, Zo 63 (.call (.f 113) [(.t 62)]), Zf 64 3 3, Zn (.store 1 (.t 64) (.t 63))]) (.seq (.region [Zm 66 4, Zb 67 .eql (.t 66) (.c (.int .i64 4)), Zm 68 67, Zg 69 (.mv (.t 6)) 68 true, Zg 70 (.lenV (.t 69)) 68 true, Zg 71 (.bin .eql .other (.t 70) (.c (.int .i64 2))) 68 true, Zo 72 (.pick (.t 68) (.t 71) (.c (.bool false))), Zm 65 72]) (.cond (.t 65) (.seq (.region [Zm 73 6, Zo 74 (.iaddrS 1 (.t 73) (.c (.int .i64 0))), Zl 75 74, Zo 76 (.call (.f 113) [(.t 75)]), Zf 77 4 3, Zn (.store 1 (.t 77) (.t 76))]) (.region [Zm 78 6, Zo 79 (.iaddrS 1 (.t 78) (.c (.int .i64 1))), Zl 80 79, Zo 81 (.call (.f 113) [(.t 80)]), Zf 82 5 3, Zn (.store 1 (.t 82) (.t 81))])) (.seq (.region [Zm 84 5, Zb 85 .eql (.t 84) (.c (.str [116, 111, 107, 101, 110])), Zm 83 85]) (.cond (.t 83) (.region [Zf 86 7 3, Zn (.store 1 (.t 86) (.c (.bool true)))]) (.seq (.region [Zm 88 5, Zo 89 (.lenS (.t 88)), Zb 90 .gtr (.t 89) (.c (.int .i64 0)), Zm 91 90, Zg 92 (.mv (.t 5)) 91 true, Zg 93 (.idxS (.t 92) (.c (.int .i64 0))) 91 true, Zg 94 (.bin .eql .other (.t 93) (.c (.int .u8 43))) 91 true, Zo 95 (.pick (.t 91) (.t 94) (.c (.bool false))), Zm 87 95]) (.cond (.t 87) (.seq (.region [Zm 97 5, Zo 98 (.slcS (.t 97) (some (.c (.int .i64 1))) none), Zo 99 (.call (.f 105) [(.t 98)]), Zm 96 99, Ze 100 0 96, Ze 101 1 96, Zm 7 100, Zm 8 101]) (.seq (.region [Zm 102 8]) (.cond (.t 102) (.region [Zf 103 6 3, Zl 104 103, Zm 105 7, Zo 106 (.call (.f 114) [(.t 104), (.t 105)]), Zf 107 6 3, Zn (.store 1 (.t 107) (.t 106))]) .skip))) .skip)))))))))))))))))))))) (.region [Zm 13 4, Zb 14 .add (.t 13) (.c (.int .i64 1)), Zm 4 14])))))) (.seq (.region [Zo 108 (.load (some 9) (.t 3)), Zn (.store 9 (.t 2) (.t 108))]) .ret))))⟩
theorem tbl72 : tbl Tryz.prog 72 = some cf72 := by kernel_rfl
def stepH (i : Nat) (c : Crd) (w : List UInt8) : Crd :=
 if i = 0 then { c with name := w }
 else if i = 1 then { c with suit := (Ef.suitR w).1 }
 else if i = 2 ∧ w = [117, 110, 105, 116] then { c with kind := 1 }
 else if i = 2 ∧ w = [115, 112, 101, 108, 108] then { c with kind := 2 }
 else if i = 2 ∧ w = [114, 101, 108, 105, 99] then { c with kind := 3 }
 else if i = 3 then { c with cost := numN w }
 else if i = 4 ∧ (pcs w [47]).length = 2 then { c with power := numN ((pcs w [47]).getD 0 []), health := numN ((pcs w [47]).getD 1 []) }
 else if w = tokenT then { c with token := true }
 else if w.take 1 = [43] then (if (Ef.traitOf (w.drop 1)).2 = true then { c with traits := withT c.traits (Ef.traitOf (w.drop 1)).1 } else c)
 else c
def goH : Nat → List (List UInt8) → Crd → Crd
 | _, [], c => c
 | i, w :: r, c => goH (i + 1) r (stepH i c w)
theorem goH_at {i : Nat} {L : List (List UInt8)} {w : List UInt8} (c : Crd) (h : L[i]? = some w) : goH i (L.drop i) c = goH (i + 1) (L.drop (i + 1)) (stepH i c w) := by
 obtain ⟨hi, e⟩ := List.getElem?_eq_some_iff.1 h
 rw [List.drop_eq_getElem_cons hi, e, goH]
theorem CS.kp {h0 h h1 : AH} {N b : Nat} {L : List (List UInt8)} {c : Crd} (I : CS h0 N b L c h) (k : Ef.Kp N h h1) : CS h0 N b L c h1 := by
 have hn := I.n
 have kn := k.n
 exact ⟨Ef.Grown.kp I.gr k, I.g0, k.low (by omega) I.low, by rw [k.get b (by omega)]; exact I.row, by rw [k.get N (by omega)]; exact I.res, by rw [k.get (N + 1) (by omega)]; exact I.card, hn.1, by omega⟩
structure HdI (h0 : AH) (N b : Nat) (L : List (List UInt8)) (cap : Cap) (F : Crd) (n : Nat) (tm : List AV) (h : AH) : Prop where
 len : tm.length = 109
 t0 : tm.getD 0 AV.undef = .slice (some (b, 0)) L.length cap
 t2 : tm.getD 2 AV.undef = .ptr (some (N, 0))
 t3 : tm.getD 3 AV.undef = .ptr (some (N + 1, 0))
 st : ∃ (i : Nat) (c : Crd), n = L.length - i ∧ i ≤ L.length ∧ tm.getD 4 AV.undef = .int .i64 (i : Int) ∧ CS h0 N b L c h ∧ goH i (L.drop i) c = F
theorem beq_nat (i k : Nat) : ((i : Int) == (k : Int)) = decide (i = k) := by
 rw [Bool.eq_iff_iff, beq_iff_eq, decide_eq_true_eq]; omega
theorem head6_spec {h0 : AH} (ho : ∀ f, f ∈ [72, 71, 113, 114, 119, 104, 105, 120] → orc f = none) (hT : Ef.Told orc h0) (L : List (List UInt8)) (b : Nat) (cap : Cap) (hl : L.length ≤ 1000) (hL : ∀ x ∈ L, x.length ≤ 600) {h : AH} (hg : Grown h0 h) (hb : h.get b = some (.cells (L.map AV.str) false)) (hbn : b < h.n) :
    acall orc T 72 [.slice (some (b, 0)) L.length cap] h = some (.agg ((goH 0 L zeroC).cells nilV), h) := by
 refine acall_sym (ho _ (by simp)) tbl72 ?_
 refine GD ?_
 generalize hF : goH 0 L zeroC = F
 (have fct := @op_mv; refine GO ?_; clear fct)
 refine CodeK_loop (HdI h0 h.n b L cap F) L.length ?_ ?_
 · refine ⟨rfl, rfl, rfl, rfl, 0, zeroC, rfl, by omega, rfl, ⟨((hg.low _).push _).push _, hg.1, by simp, ?_, ?_, ?_, by omega, by simp⟩, hF⟩
   · rw [Hp.get_push_ne _ _ _ (by simp; omega), Hp.get_push_ne _ _ _ (by simp; omega)]; exact hb
   · rw [Hp.get_push_ne _ _ _ (by simp)]; exact Hp.get_push_self _ _
   · exact Hp.get_push_self _ _
 intro n tm H I
 obtain ⟨i, c, hn, hi, e4, S, hF⟩ := I.st
 have el := I.len
 have e0 := I.t0
 have e2 := I.t2
 have e3 := I.t3
 have r2 := S.row
 clear I
 by_cases hlt : i < L.length
 case neg =>
  obtain rfl : i = L.length := by omega
  have l1 : decide ((L.length : Int) < (L.length : Int)) = false := by rw [decide_eq_false_iff_not]; omega
  rw [List.drop_length] at hF
  obtain rfl : c = F := hF
  have rs := S.res
  have k3 := S.card
  have hn1 := S.n
  have hlw := S.low
  (have fct := Fj @el (Fj @e0 (Fj @e2 (Fj @e3 (Fj @e4 (Fj @l1 (Fj @k3 (Fj @rs (Fj @cells_len (Fj @cells_take (Fj @cells_one @ov_9)))))))))); refine GO ?_; clear fct)
  (have fct := Fj @el (Fj @e2 (Fj @cells_len (Fj @cells_take (Fj @cells_one (Fj @Nat.zero_le @Nat.zero_add))))); refine A_end ?_; clear fct; try exact trivial)
  exact ⟨hlw, rfl⟩
 case pos =>
 have l1 : decide ((i : Int) < (L.length : Int)) = true := by rw [decide_eq_true_eq]; omega
 obtain ⟨w, hw⟩ : ∃ w, L[i]? = some w := ⟨_, List.getElem?_eq_getElem hlt⟩
 have hwl := hL w (List.mem_of_getElem? hw)
 have hm : (L.map AV.str)[i]? = some (.str w) := by rw [List.getElem?_map, hw]; rfl
 have a1 := fun (hh : AH) => iaddrV_nat (h := hh) (esz := 1) (b := b) (o := 0) (c := cap) (k := .i64) hlt
 have w1 : IntKind.wrap .i64 ((i : Int) + 1) = ((i + 1 : Nat) : Int) := by rw [Ef.wrap_small (by omega) (by omega)]; omega
 rw [goH_at c hw] at hF
 (have fct := Fj @el (Fj @e0 (Fj @e2 (Fj @e3 (Fj @e4 (Fj @l1 (Fj @a1 (Fj @r2 (Fj @hm @Nat.mul_one)))))))); refine GO ?_; clear fct)
 have hNl := S.n
 refine R_ex (by simp (maxDischargeDepth := 12) only [opsB, Nat.reduceEqDiff, Nat.reduceBEq, Nat.reduceBNe, Int.reduceBEq, Int.reduceBNe, Int.reduceLT, Int.reduceLE, Int.reduceEq, AV.one, AV.cells, CA.ev, abin, aint, aun, isShift, readVar, readCell, readCells, writeCells, fillA, reduceIte, Nat.reduceAdd, Nat.reduceSub, Nat.reduceLT, Nat.reduceLeDiff, resAll, resOne, AV.under, AV.unders, cut, el, e0, e2, e3, e4, fsTm, Nat.reduceBEq, Nat.reduceLT]; (first | done | with_reducible rfl)) (pieces_spec h.n (ho _ (by simp)) w [47] hwl (by simp) (by simp) (h := H) (by omega)) fun v1 h1 hh => ?_
 obtain ⟨⟨pb, pcap, rfl, p1, p2, p3⟩, kp⟩ := hh
 refine A_tm ?_
 have S1 := S.kp kp
 have k3 := S1.card
 clear r2 S kp
 have fin : ∀ (tm' : List AV) (H' : AH) (c' : Crd), tm'.length = 109 → tm'.getD 0 AV.undef = .slice (some (b, 0)) L.length cap → tm'.getD 2 AV.undef = .ptr (some (h.n, 0)) → tm'.getD 3 AV.undef = .ptr (some (h.n + 1, 0)) → tm'.getD 4 AV.undef = .int .i64 ((i + 1 : Nat) : Int) → CS h0 h.n b L c' H' → stepH i c w = c' → ∃ m, m < n ∧ HdI h0 h.n b L cap F m tm' H' :=
  fun tm' H' c' q1 q2 q3 q4 q5 q6 q7 => ⟨L.length - (i + 1), by omega, q1, q2, q3, q4, i + 1, c', rfl, by omega, q5, q6, by rw [← q7]; exact hF⟩
 have b0 : ((i : Int) == 0) = decide (i = 0) := beq_nat i 0
 have b1 : ((i : Int) == 1) = decide (i = 1) := beq_nat i 1
 have b2 : ((i : Int) == 2) = decide (i = 2) := beq_nat i 2
 have b3 : ((i : Int) == 3) = decide (i = 3) := beq_nat i 3
 have b4 : ((i : Int) == 4) = decide (i = 4) := beq_nat i 4
 have cN := num6_spec (orc := orc) (ho _ (by simp)) w
 by_cases c0 : i = 0
 · rw [decide_eq_true c0] at b0
   (have fct := Fj @el (Fj @e0 (Fj @e2 (Fj @e3 (Fj @e4 (Fj @b0 (Fj @k3 (Fj @w1 (Fj @ov_0 @cells_len)))))))); refine GO ?_; clear fct)
   exact fin _ _ _ (by simp only [List.length_set, el]) (by simp only [fsTm, Nat.reduceBEq, Nat.reduceLT, e0]) (by simp only [fsTm, Nat.reduceBEq, Nat.reduceLT, e2]) (by simp only [fsTm, Nat.reduceBEq, Nat.reduceLT, e3]) (by simp only [fsTm, Nat.reduceBEq, Nat.reduceLT, el]) (S1.store _) (by unfold stepH; rw [if_pos c0])
 rw [decide_eq_false c0] at b0
 by_cases c1 : i = 1
 · rw [decide_eq_true c1] at b1
   have cS := Ef.rsuitOf_spec (orc := orc) (ho _ (by simp)) hT w S1.gr
   (have fct := Fj @el (Fj @e0 (Fj @e2 (Fj @e3 (Fj @e4 (Fj @b0 (Fj @b1 (Fj @cS (Fj @k3 (Fj @w1 (Fj @ov_1 @cells_len)))))))))); refine GO ?_; clear fct)
   exact fin _ _ _ (by simp only [List.length_set, el]) (by simp only [fsTm, Nat.reduceBEq, Nat.reduceLT, e0]) (by simp only [fsTm, Nat.reduceBEq, Nat.reduceLT, e2]) (by simp only [fsTm, Nat.reduceBEq, Nat.reduceLT, e3]) (by simp only [fsTm, Nat.reduceBEq, Nat.reduceLT, el]) (S1.store _) (by unfold stepH; rw [if_neg c0, if_pos c1])
 rw [decide_eq_false c1] at b1
 by_cases c2 : i = 2 ∧ w = [117, 110, 105, 116]
 · rw [decide_eq_true c2.1] at b2
   have q1 : decide (w = [117, 110, 105, 116]) = true := decide_eq_true c2.2
   (have fct := Fj @el (Fj @e0 (Fj @e2 (Fj @e3 (Fj @e4 (Fj @b0 (Fj @b1 (Fj @b2 (Fj @q1 (Fj fsAstr (Fj @k3 (Fj @w1 (Fj @ov_2 @cells_len)))))))))))); refine GO ?_; clear fct)
   exact fin _ _ _ (by simp only [List.length_set, el]) (by simp only [fsTm, Nat.reduceBEq, Nat.reduceLT, e0]) (by simp only [fsTm, Nat.reduceBEq, Nat.reduceLT, e2]) (by simp only [fsTm, Nat.reduceBEq, Nat.reduceLT, e3]) (by simp only [fsTm, Nat.reduceBEq, Nat.reduceLT, el]) (S1.store _) (by unfold stepH; rw [if_neg c0, if_neg c1, if_pos c2])
 by_cases c3 : i = 2 ∧ w = [115, 112, 101, 108, 108]
 · rw [decide_eq_true c3.1] at b2
   have q1 : decide (w = [117, 110, 105, 116]) = false := decide_eq_false fun e => c2 ⟨c3.1, e⟩
   have q2 : decide (w = [115, 112, 101, 108, 108]) = true := decide_eq_true c3.2
   (have fct := Fj @el (Fj @e0 (Fj @e2 (Fj @e3 (Fj @e4 (Fj @b0 (Fj @b1 (Fj @b2 (Fj @q1 (Fj @q2 (Fj fsAstr (Fj @k3 (Fj @w1 (Fj @ov_2 @cells_len))))))))))))); refine GO ?_; clear fct)
   exact fin _ _ _ (by simp only [List.length_set, el]) (by simp only [fsTm, Nat.reduceBEq, Nat.reduceLT, e0]) (by simp only [fsTm, Nat.reduceBEq, Nat.reduceLT, e2]) (by simp only [fsTm, Nat.reduceBEq, Nat.reduceLT, e3]) (by simp only [fsTm, Nat.reduceBEq, Nat.reduceLT, el]) (S1.store _) (by unfold stepH; rw [if_neg c0, if_neg c1, if_neg c2, if_pos c3])
 by_cases c4 : i = 2 ∧ w = [114, 101, 108, 105, 99]
 · rw [decide_eq_true c4.1] at b2
   have q1 : decide (w = [117, 110, 105, 116]) = false := decide_eq_false fun e => c2 ⟨c4.1, e⟩
   have q2 : decide (w = [115, 112, 101, 108, 108]) = false := decide_eq_false fun e => c3 ⟨c4.1, e⟩
   have q3 : decide (w = [114, 101, 108, 105, 99]) = true := decide_eq_true c4.2
   (have fct := Fj @el (Fj @e0 (Fj @e2 (Fj @e3 (Fj @e4 (Fj @b0 (Fj @b1 (Fj @b2 (Fj @q1 (Fj @q2 (Fj @q3 (Fj fsAstr (Fj @k3 (Fj @w1 (Fj @ov_2 @cells_len)))))))))))))); refine GO ?_; clear fct)
   exact fin _ _ _ (by simp only [List.length_set, el]) (by simp only [fsTm, Nat.reduceBEq, Nat.reduceLT, e0]) (by simp only [fsTm, Nat.reduceBEq, Nat.reduceLT, e2]) (by simp only [fsTm, Nat.reduceBEq, Nat.reduceLT, e3]) (by simp only [fsTm, Nat.reduceBEq, Nat.reduceLT, el]) (S1.store _) (by unfold stepH; rw [if_neg c0, if_neg c1, if_neg c2, if_neg c3, if_pos c4])
 by_cases cB : i = 3
 · rw [decide_eq_true cB] at b3
   rw [decide_eq_false (by omega)] at b2
   (have fct := Fj @el (Fj @e0 (Fj @e2 (Fj @e3 (Fj @e4 (Fj @b0 (Fj @b1 (Fj @b2 (Fj @b3 (Fj @cN (Fj @k3 (Fj @w1 (Fj @ov_3 @cells_len)))))))))))); refine GO ?_; clear fct)
   exact fin _ _ _ (by simp only [List.length_set, el]) (by simp only [fsTm, Nat.reduceBEq, Nat.reduceLT, e0]) (by simp only [fsTm, Nat.reduceBEq, Nat.reduceLT, e2]) (by simp only [fsTm, Nat.reduceBEq, Nat.reduceLT, e3]) (by simp only [fsTm, Nat.reduceBEq, Nat.reduceLT, el]) (S1.store _) (by unfold stepH; rw [if_neg c0, if_neg c1, if_neg c2, if_neg c3, if_neg c4, if_pos cB])
 rw [decide_eq_false cB] at b3
 have f4 : (((pcs w [47]).length : Int) == 2) = decide ((pcs w [47]).length = 2) := beq_nat _ 2
 by_cases cD : i = 4 ∧ (pcs w [47]).length = 2
 case pos =>
  obtain ⟨cC, cD⟩ := cD
  rw [decide_eq_true cC] at b4
  rw [decide_eq_false (by omega)] at b2
  rw [decide_eq_true cD] at f4
  have hst : stepH i c w = { c with power := numN ((pcs w [47]).getD 0 []), health := numN ((pcs w [47]).getD 1 []) } := by
   unfold stepH; rw [if_neg c0, if_neg c1, if_neg c2, if_neg c3, if_neg c4, if_neg cB, if_pos ⟨cC, cD⟩]
  generalize pcs w [47] = P at *
  match P, cD with
  | [x, y], _ =>
    have d0 := num6_spec (orc := orc) (ho _ (by simp)) x
    have d1 := num6_spec (orc := orc) (ho _ (by simp)) y
    have g0 : ∀ hh : AH, iaddrV 1 (.slice (some (pb, 0)) [x, y].length pcap) (.int .i64 0) hh = some (.ptr (some (pb, 0)), hh) := fun hh => iaddrV_at (h := hh) (esz := 1) (b := pb) (o := 0) (len := [x, y].length) (c := pcap) (k := .i64) (n := 0) (by simp) (by simp)
    have g1 : ∀ hh : AH, iaddrV 1 (.slice (some (pb, 0)) [x, y].length pcap) (.int .i64 1) hh = some (.ptr (some (pb, 1)), hh) := fun hh => iaddrV_at (h := hh) (esz := 1) (b := pb) (o := 0) (len := [x, y].length) (c := pcap) (k := .i64) (n := 1) (by simp) (by simp)
    have m0 : ([x, y].map AV.str)[0]? = some (.str x) := rfl
    have m1 : ([x, y].map AV.str)[1]? = some (.str y) := rfl
    have y1 : (pb = h.n + 1) = False := by simp; omega
    generalize [x, y].map AV.str = cells at *
    generalize [x, y].length = nn at *
    (have fct := Fj @el (Fj @e0 (Fj @e2 (Fj @e3 (Fj @e4 (Fj @b0 (Fj @b1 (Fj @b2 (Fj @b3 (Fj @b4 (Fj @f4 (Fj @g0 (Fj @g1 (Fj @p1 (Fj @m0 (Fj @m1 (Fj @y1 (Fj @d0 (Fj @d1 (Fj @k3 (Fj @w1 (Fj @ov_4 (Fj @ov_5 (Fj @cells_len (Fj @Nat.mul_one (Fj @Nat.zero_mul @Int.toNat_zero))))))))))))))))))))))))); refine GO ?_; clear fct)
    exact fin _ _ _ (by simp only [List.length_set, el]) (by simp only [fsTm, Nat.reduceBEq, Nat.reduceLT, e0]) (by simp only [fsTm, Nat.reduceBEq, Nat.reduceLT, e2]) (by simp only [fsTm, Nat.reduceBEq, Nat.reduceLT, e3]) (by simp only [fsTm, Nat.reduceBEq, Nat.reduceLT, el]) ((S1.store { c with power := numN x }).store _) (by rw [hst]; rfl)
 case neg =>
 have hst : stepH i c w = if w = tokenT then { c with token := true } else if w.take 1 = [43] then (if (Ef.traitOf (w.drop 1)).2 = true then { c with traits := withT c.traits (Ef.traitOf (w.drop 1)).1 } else c) else c := by
  unfold stepH; rw [if_neg c0, if_neg c1, if_neg c2, if_neg c3, if_neg c4, if_neg cB, if_neg cD]
 have situ : ((((i : Int) == 2) = true ∧ ((i : Int) == 4) = false ∧ decide (w = [117, 110, 105, 116]) = false ∧ decide (w = [115, 112, 101, 108, 108]) = false ∧ decide (w = [114, 101, 108, 105, 99]) = false) ∨ (((i : Int) == 2) = false ∧ ((i : Int) == 4) = false ∧ True ∧ True ∧ True)) ∨ (((i : Int) == 2) = false ∧ ((i : Int) == 4) = true ∧ (((pcs w [47]).length : Int) == 2) = false ∧ True ∧ True) := by
  by_cases cA : i = 2
  · exact .inl (.inl ⟨by rw [b2, decide_eq_true cA], by rw [b4, decide_eq_false (by omega)], decide_eq_false fun e => c2 ⟨cA, e⟩, decide_eq_false fun e => c3 ⟨cA, e⟩, decide_eq_false fun e => c4 ⟨cA, e⟩⟩)
  · by_cases cC : i = 4
    · exact .inr ⟨by rw [b2, decide_eq_false cA], by rw [b4, decide_eq_true cC], by rw [f4, decide_eq_false fun e => cD ⟨cC, e⟩], trivial, trivial⟩
    · exact .inl (.inr ⟨by rw [b2, decide_eq_false cA], by rw [b4, decide_eq_false cC], trivial, trivial, trivial⟩)
 clear b2 b4 f4
 rcases situ with (⟨b2, b4, f1, f2, f3⟩ | ⟨b2, b4, f1, f2, f3⟩) | ⟨b2, b4, f1, f2, f3⟩
 all_goals (
  by_cases ct : w = [116, 111, 107, 101, 110]
  · have q5 : decide (w = [116, 111, 107, 101, 110]) = true := decide_eq_true ct
    (have fct := Fj @el (Fj @e0 (Fj @e2 (Fj @e3 (Fj @e4 (Fj @b0 (Fj @b1 (Fj @b2 (Fj @f1 (Fj @f2 (Fj @f3 (Fj @b3 (Fj @b4 (Fj fsAstr (Fj @q5 (Fj @k3 (Fj @w1 (Fj @ov_7 @cells_len))))))))))))))))); refine GO ?_; clear fct)
    exact fin _ _ _ (by simp only [List.length_set, el]) (by simp only [fsTm, Nat.reduceBEq, Nat.reduceLT, e0]) (by simp only [fsTm, Nat.reduceBEq, Nat.reduceLT, e2]) (by simp only [fsTm, Nat.reduceBEq, Nat.reduceLT, e3]) (by simp only [fsTm, Nat.reduceBEq, Nat.reduceLT, el]) (S1.store _) (by rw [hst]; unfold tokenT; rw [if_pos ct])
  have q5 : decide (w = [116, 111, 107, 101, 110]) = false := decide_eq_false ct
  by_cases cp : w.take 1 = [43]
  case neg =>
   by_cases hW : w = []
   case pos =>
    have l2 : decide ((0 : Int) < (w.length : Int)) = false := by rw [hW]; rfl
    (have fct := Fj @el (Fj @e0 (Fj @e2 (Fj @e3 (Fj @e4 (Fj @b0 (Fj @b1 (Fj @b2 (Fj @f1 (Fj @f2 (Fj @f3 (Fj @b3 (Fj @b4 (Fj fsAstr (Fj @q5 (Fj @l2 @w1))))))))))))))); refine GO ?_; clear fct)
    exact fin _ _ _ (by simp only [List.length_set, el]) (by simp only [fsTm, Nat.reduceBEq, Nat.reduceLT, e0]) (by simp only [fsTm, Nat.reduceBEq, Nat.reduceLT, e2]) (by simp only [fsTm, Nat.reduceBEq, Nat.reduceLT, e3]) (by simp only [fsTm, Nat.reduceBEq, Nat.reduceLT, el]) S1 (by rw [hst]; unfold tokenT; rw [if_neg ct, if_neg cp])
   case neg =>
    obtain ⟨a, r, hW⟩ := List.exists_cons_of_ne_nil hW
    have l2 : decide ((0 : Int) < (w.length : Int)) = true := by rw [hW, decide_eq_true_eq]; simp only [List.length_cons]; omega
    have x0 := fun (hh : AH) => hW ▸ Ef.idxSV_zero a r .i64 hh
    have q6 : ((a.toNat : Int) == 43) = false := by
     rw [beq_eq_false_iff_ne]
     intro e
     refine cp ?_
     rw [hW]
     have h6 : a.toNat = 43 := by omega
     rw [show a = 43 from UInt8.toNat_inj.1 h6]
     rfl
    (have fct := Fj @el (Fj @e0 (Fj @e2 (Fj @e3 (Fj @e4 (Fj @b0 (Fj @b1 (Fj @b2 (Fj @f1 (Fj @f2 (Fj @f3 (Fj @b3 (Fj @b4 (Fj fsAstr (Fj @q5 (Fj @l2 (Fj @Ef.op_idxS (Fj @x0 (Fj @q6 @w1)))))))))))))))))); refine GO ?_; clear fct)
    exact fin _ _ _ (by simp only [List.length_set, el]) (by simp only [fsTm, Nat.reduceBEq, Nat.reduceLT, e0]) (by simp only [fsTm, Nat.reduceBEq, Nat.reduceLT, e2]) (by simp only [fsTm, Nat.reduceBEq, Nat.reduceLT, e3]) (by simp only [fsTm, Nat.reduceBEq, Nat.reduceLT, el]) S1 (by rw [hst]; unfold tokenT; rw [if_neg ct, if_neg cp])
  case pos =>
   obtain ⟨r, hW⟩ : ∃ r, w = 43 :: r := by
    cases w with
    | nil => simp at cp
    | cons a r => simp at cp; exact ⟨r, by rw [cp]⟩
   have l2 : decide ((0 : Int) < (w.length : Int)) = true := by rw [hW, decide_eq_true_eq]; simp only [List.length_cons]; omega
   have x0 := fun (hh : AH) => hW ▸ Ef.idxSV_zero 43 r .i64 hh
   have q6 : (((43 : UInt8).toNat : Int) == 43) = true := rfl
   have hw1 : 1 ≤ w.length := by rw [hW]; simp
   (have fct := Fj @el (Fj @e0 (Fj @e2 (Fj @e3 (Fj @e4 (Fj @b0 (Fj @b1 (Fj @b2 (Fj @f1 (Fj @f2 (Fj @f3 (Fj @b3 (Fj @b4 (Fj fsAstr (Fj @q5 (Fj @l2 (Fj @Ef.op_idxS (Fj @x0 (Fj @q6 @w1)))))))))))))))))); refine GO ?_; clear fct)
   refine R_any (by simp only [CR.wanted]) (slcS_lo (k := .i64) (s := w) (l := 1) (by simp only [CA.ev, fsTm, Nat.reduceBEq, Nat.reduceLT, el]) (by simp only [CA.ev]; rfl) hw1) (by simp only [put, List.set_cons_succ, List.set_cons_zero]; (first | done | with_reducible rfl)) ?_
   have cT := Ef.rtraitOf_spec (orc := orc) (ho _ (by simp)) (ho _ (by simp)) (w.drop 1)
   obtain ⟨t1, t8⟩ := trait_room (w.drop 1)
   have cH := with6_spec (orc := orc) (fun f hf => ho f (by revert hf; simp only [List.mem_cons, List.mem_nil_iff, or_false]; omega)) c.traits (Ef.traitOf (w.drop 1)).1 t1 t8
   cases hok : (Ef.traitOf (w.drop 1)).2 with
   | true =>
     rw [hok] at cT
     (have fct := Fj @el (Fj @e0 (Fj @e2 (Fj @e3 (Fj @e4 (Fj @cT (Fj @cH (Fj @k3 (Fj @cells_six (Fj @w1 (Fj @ov_6 @cells_len)))))))))); refine GO ?_; clear fct)
     exact fin _ _ _ (by simp only [List.length_set, el]) (by simp only [fsTm, Nat.reduceBEq, Nat.reduceLT, e0]) (by simp only [fsTm, Nat.reduceBEq, Nat.reduceLT, e2]) (by simp only [fsTm, Nat.reduceBEq, Nat.reduceLT, e3]) (by simp only [fsTm, Nat.reduceBEq, Nat.reduceLT, el]) (S1.store _) (by rw [hst]; unfold tokenT; rw [if_neg ct, if_pos cp, if_pos hok])
   | false =>
     rw [hok] at cT
     (have fct := Fj @el (Fj @e0 (Fj @e2 (Fj @e3 (Fj @e4 (Fj @cT (Fj @cH (Fj @k3 (Fj @cells_six (Fj @w1 (Fj @ov_6 @cells_len)))))))))); refine GO ?_; clear fct)
     exact fin _ _ _ (by simp only [List.length_set, el]) (by simp only [fsTm, Nat.reduceBEq, Nat.reduceLT, e0]) (by simp only [fsTm, Nat.reduceBEq, Nat.reduceLT, e2]) (by simp only [fsTm, Nat.reduceBEq, Nat.reduceLT, e3]) (by simp only [fsTm, Nat.reduceBEq, Nat.reduceLT, el]) S1 (by rw [hst]; unfold tokenT; rw [if_neg ct, if_pos cp, if_neg (by rw [hok]; decide)]))
end Go.Proofs.Cards
