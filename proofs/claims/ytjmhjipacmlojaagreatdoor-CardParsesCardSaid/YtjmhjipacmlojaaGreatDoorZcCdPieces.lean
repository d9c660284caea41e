/- A text cut wherever another one stands: the reference's pieces; its numbers. -/
import Derived.Test.YtjmhjipacmlojaaGreatDoorFz05
import Derived.Test.YtjmhjipacmlojaaGreatDoorZcCdRefP
namespace Go.Proofs.Cards
set_option maxRecDepth 100000
set_option maxHeartbeats 32000000
open Go Go.Fs
set_option linter.unusedSimpArgs false
set_option linter.unusedVariables false
variable {orc : Orc}
def cf71 : CF := ⟨48, [(.tmp 4)], (.seq (.region [Zo 4 (.mv (.c (.slice none 0 (.exact 0))))]) (.seq (.region [Zo 5 (.mv (.c (.slice none 0 (.exact 0))))]) (.seq (.region [Zo 6 (.mv (.c (.int .i64 0)))]) (.seq (.seq (.region [Zo 7 (.mv (.c (.int .i64 0)))]) (.block 0 (.loop (.seq (.seq (.region [Zm 8 7, Zm 9 1, Zo 10 (.lenS (.t 9)), Zb 11 .add (.t 8) (.t 10), Zm 12 0, Zo 13 (.lenS (.t 12)), Zb 14 .leq (.t 11) (.t 13)]) (.cond (.t 14) .skip (.exit 0))) (.seq (.block 1 (.seq (.region [Zm 17 7, Zm 18 6, Zb 19 .geq (.t 17) (.t 18), Zm 20 19, Zg 21 (.mv (.t 0)) 20 true, Zg 22 (.mv (.t 7)) 20 true, Zg 23 (.mv (.t 7)) 20 true, Zg 24 (.mv (.t 1)) 20 true, Zg 25 (.lenS (.t 24)) 20 true, Zg 26 (.bin .add .other (.t 23) (.t 25)) 20 true, Zg 27 (.slcS (.t 21) (some (.t 22)) (some (.t 26))) 20 true, Zg 28 (.mv (.t 1)) 20 true, Zg 29 (.bin .eql .other (.t 27) (.t 28)) 20 true, Zo 30 (.pick (.t 20) (.t 29) (.c (.bool false)))]) (.cond (.t 30) (.seq (.region [Zm 31 5, Zm 32 0, Zm 33 6, Zm 34 7, Zo 35 (.slcS (.t 32) (some (.t 33)) (some (.t 34))), Zo 36 (.litS 1 1 [(.str [])] [(0, (1, (.t 35)))]), Zo 37 (.append 1 16 (.t 31) (.t 36)), Zm 5 37]) (.region [Zm 38 7, Zm 39 1, Zo 40 (.lenS (.t 39)), Zb 41 .add (.t 38) (.t 40), Zm 6 41])) .skip))) (.region [Zm 15 7, Zb 16 .add (.t 15) (.c (.int .i64 1)), Zm 7 16])))))) (.seq (.region [Zm 42 5, Zm 43 0, Zm 44 6, Zo 45 (.slcS (.t 43) (some (.t 44)) none), Zo 46 (.litS 1 1 [(.str [])] [(0, (1, (.t 45)))]), Zo 47 (.append 1 16 (.t 42) (.t 46)), Zm 4 47]) .ret)))))⟩
def cf113 : CF := ⟨34, [(.tmp 2)], (.seq (.region [Zo 2 (.mv (.c (.int .i64 0)))]) (.seq (.region [Zo 3 (.mv (.c (.int .i64 0)))]) (.seq (.seq (.region [Zo 4 (.mv (.c (.int .i64 0)))]) (.block 0 (.loop (.seq (.seq (.region [Zm 5 4, Zm 6 0, Zo 7 (.lenS (.t 6)), Zb 8 .lss (.t 5) (.t 7), Zm 9 8, Zg 10 (.mv (.t 4)) 9 true, Zg 11 (.bin .lss .other (.t 10) (.c (.int .i64 3))) 9 true, Zo 12 (.pick (.t 9) (.t 11) (.c (.bool false)))]) (.cond (.t 12) .skip (.exit 0))) (.seq (.block 1 (.seq (.seq (.region [Zm 15 0, Zm 16 4, Zo 17 (.idxS (.t 15) (.t 16)), Zb 18 .lss (.t 17) (.c (.int .u8 48)), Zm 19 18, Zg 20 (.mv (.t 0)) 19 false, Zg 21 (.mv (.t 4)) 19 false, Zg 22 (.idxS (.t 20) (.t 21)) 19 false, Zg 23 (.bin .gtr .other (.t 22) (.c (.int .u8 57))) 19 false, Zo 24 (.pick (.t 19) (.c (.bool true)) (.t 23))]) (.cond (.t 24) (.seq (.region [Zo 2 (.mv (.c (.int .i64 0)))]) .ret) .skip)) (.region [Zm 25 3, Zb 26 .mul (.c (.int .i64 10)) (.t 25), Zm 27 0, Zm 28 4, Zo 29 (.idxS (.t 27) (.t 28)), Zb 30 .sub (.t 29) (.c (.int .u8 48)), Zo 31 (.toInt .i64 (.t 30)), Zb 32 .add (.t 26) (.t 31), Zm 3 32]))) (.region [Zm 13 4, Zb 14 .add (.t 13) (.c (.int .i64 1)), Zm 4 14])))))) (.seq (.region [Zm 33 3, Zm 2 33]) .ret))))⟩
def cf114 : CF := ⟨9, [(.tmp 4)], (.seq (.region [Zo 4 (.mv (.c (.int .u16 0)))]) (.seq (.region [Zm 5 0, Zm 6 1, Zo 7 (.call (.f 119) [(.t 6)]), Zb 8 .or (.t 5) (.t 7), Zm 4 8]) .ret))⟩
theorem tbl71 : tbl Tryz.prog 71 = some cf71 := by kernel_rfl
theorem tbl113 : tbl Tryz.prog 113 = some cf113 := by kernel_rfl
theorem tbl114 : tbl Tryz.prog 114 = some cf114 := by kernel_rfl
def pcsR (sep : List UInt8) : List UInt8 → Nat → List UInt8 → List (List UInt8)
 | [], _, cur => [cur]
 | _ :: r, k + 1, cur => pcsR sep r k cur
 | b :: r, 0, cur => if sep.isPrefixOf (b :: r) = true then cur :: pcsR sep r (sep.length - 1) [] else pcsR sep r 0 (cur ++ [b])
def pcs (s sep : List UInt8) : List (List UInt8) := pcsR sep s 0 []
theorem pcsR_ne (sep : List UInt8) : ∀ (s : List UInt8) (k : Nat) (cur : List UInt8), pcsR sep s k cur ≠ []
 | [], _, cur => by simp [pcsR]
 | _ :: r, k + 1, cur => by rw [pcsR]; exact pcsR_ne sep r k cur
 | b :: r, 0, cur => by
   rw [pcsR]
   split
   · simp
   · exact pcsR_ne sep r 0 _
theorem pcsR_len (sep : List UInt8) : ∀ (s : List UInt8) (k : Nat) (cur : List UInt8), (pcsR sep s k cur).length ≤ s.length + 1 ∧ ∀ x ∈ pcsR sep s k cur, x.length ≤ cur.length + s.length
 | [], _, cur => by simp [pcsR]
 | _ :: r, k + 1, cur => by
   rw [pcsR]
   have := pcsR_len sep r k cur
   exact ⟨by simp only [List.length_cons]; omega, fun x hx => by have := this.2 x hx; simp only [List.length_cons]; omega⟩
 | b :: r, 0, cur => by
   rw [pcsR]
   split
   · have := pcsR_len sep r (sep.length - 1) []
     refine ⟨by simp only [List.length_cons]; omega, fun x hx => ?_⟩
     rcases List.mem_cons.1 hx with rfl | hx
     · omega
     · have := this.2 x hx; simp only [List.length_cons, List.length_nil] at this ⊢; omega
   · have := pcsR_len sep r 0 (cur ++ [b])
     exact ⟨by simp only [List.length_cons]; omega, fun x hx => by have := this.2 x hx; simp only [List.length_cons, List.length_append, List.length_nil] at this ⊢; omega⟩
theorem pcs_len (s sep : List UInt8) : (pcs s sep).length ≤ s.length + 1 ∧ ∀ x ∈ pcs s sep, x.length ≤ s.length := by
 have := pcsR_len sep s 0 []
 exact ⟨this.1, fun x hx => by have := this.2 x hx; simpa using this⟩
theorem pcsR_short {sep : List UInt8} : ∀ (s : List UInt8) (k : Nat) (cur : List UInt8), s.length < sep.length → pcsR sep s k cur = [cur ++ s.drop k]
 | [], _, cur, _ => by simp [pcsR]
 | _ :: r, k + 1, cur, h => by
   rw [pcsR, pcsR_short r k cur (by simp only [List.length_cons] at h; omega)]; rfl
 | b :: r, 0, cur, h => by
   rw [pcsR]
   rw [if_neg (fun e => by have := (List.isPrefixOf_iff_prefix.1 e).length_le; omega)]
   rw [pcsR_short r 0 _ (by simp only [List.length_cons] at h; omega)]
   simp
theorem pre_take {sep l : List UInt8} : sep.isPrefixOf l = decide (l.take sep.length = sep) := by
 rw [Bool.eq_iff_iff, List.isPrefixOf_iff_prefix, List.prefix_iff_eq_take, decide_eq_true_eq]
 exact eq_comm
theorem pcsR_hit {s sep : List UInt8} {i a : Nat} (hi : i < s.length) (ha : a ≤ i) (hp : (s.drop i).take sep.length = sep) (h1 : 1 ≤ sep.length) :
    pcsR sep (s.drop i) (a - i) ((s.drop a).take (i - a)) = (s.drop a).take (i - a) :: pcsR sep (s.drop (i + 1)) (i + sep.length - (i + 1)) ((s.drop (i + sep.length)).take (i + 1 - (i + sep.length))) := by
 rw [show a - i = 0 by omega, show i + 1 - (i + sep.length) = 0 by omega, show i + sep.length - (i + 1) = sep.length - 1 by omega, List.take_zero]
 have e : s.drop i = s[i] :: s.drop (i + 1) := List.drop_eq_getElem_cons hi
 rw [e] at hp ⊢
 rw [pcsR, pre_take, if_pos (by rw [decide_eq_true_eq]; exact hp)]
theorem pcsR_miss {s sep : List UInt8} {i a : Nat} (hi : i < s.length) (ha : a ≤ i) (hp : (s.drop i).take sep.length ≠ sep) :
    pcsR sep (s.drop i) (a - i) ((s.drop a).take (i - a)) = pcsR sep (s.drop (i + 1)) (a - (i + 1)) ((s.drop a).take (i + 1 - a)) := by
 rw [show a - i = 0 by omega, show a - (i + 1) = 0 by omega]
 have e : s.drop i = s[i] :: s.drop (i + 1) := List.drop_eq_getElem_cons hi
 rw [e] at hp ⊢
 rw [pcsR, pre_take, if_neg (by rw [decide_eq_true_eq]; exact hp)]
 congr 1
 rw [show i + 1 - a = (i - a) + 1 by omega, List.take_add_one, List.getElem?_drop, show a + (i - a) = i by omega, List.getElem?_eq_getElem hi]
 rfl
theorem pcsR_pass {s sep : List UInt8} {i a : Nat} (hi : i < s.length) (ha : i < a) :
    pcsR sep (s.drop i) (a - i) ((s.drop a).take (i - a)) = pcsR sep (s.drop (i + 1)) (a - (i + 1)) ((s.drop a).take (i + 1 - a)) := by
 have e : s.drop i = s[i] :: s.drop (i + 1) := List.drop_eq_getElem_cons hi
 rw [show i - a = 0 by omega, show i + 1 - a = 0 by omega, show a - i = (a - (i + 1)) + 1 by omega, e, pcsR]
theorem pcsR_end {s sep : List UInt8} {i a : Nat} (hi : s.length < i + sep.length) (hil : i ≤ s.length) : pcsR sep (s.drop i) (a - i) ((s.drop a).take (i - a)) = [s.drop a] := by
 rw [pcsR_short _ _ _ (by rw [List.length_drop]; omega), List.drop_drop]
 congr 1
 by_cases h : a ≤ i
 · rw [show i + (a - i) = i by omega]
   conv => rhs; rw [← List.take_append_drop (i - a) (s.drop a)]
   rw [List.drop_drop, show a + (i - a) = i by omega]
 · rw [show i - a = 0 by omega, show i + (a - i) = a by omega]
   simp
structure PiI (s sep : List UInt8) (M : Nat) (h0 : AH) (n : Nat) (tm : List AV) (H : AH) : Prop where
 len : tm.length = 48
 t0 : tm.getD 0 AV.undef = .str s
 t1 : tm.getD 1 AV.undef = .str sep
 st : ∃ (i a : Nat) (R : List (List UInt8)) (v : AV), n = s.length - i ∧ i ≤ s.length ∧ a ≤ s.length ∧ tm.getD 7 AV.undef = .int .i64 (i : Int) ∧ tm.getD 6 AV.undef = .int .i64 (a : Int) ∧ tm.getD 5 AV.undef = v ∧
  pcs s sep = R ++ pcsR sep (s.drop i) (a - i) ((s.drop a).take (i - a)) ∧ ((R = [] ∧ v = .slice none 0 (.exact 0)) ∨ Ef.RowL M H v R)
 fr : ∀ b, b ≤ M → H.get b = h0.get b
 low : M ≤ H.low
 hn : h0.n ≤ H.n
def RowT (h h1 : AH) (v : AV) (L : List (List UInt8)) : Prop := ∃ b cap, v = .slice (some (b, 0)) L.length cap ∧ h1.get b = some (.cells (L.map AV.str) false) ∧ h.n ≤ b ∧ b < h1.n
theorem pieces_spec (N : Nat) (ho : orc 71 = none) (s sep : List UInt8) (hl : s.length ≤ 600) (hp : 1 ≤ sep.length) (hp2 : sep.length ≤ 10) {h : AH} (hN : N < h.n) : ∃ v1 h1, acall orc T 71 [.str s, .str sep] h = some (v1, h1) ∧
    (RowT h h1 v1 (pcs s sep) ∧ Ef.Kp N h h1) := by
 refine acall_facts (R := fun v1 h1 => RowT h h1 v1 (pcs s sep) ∧ Ef.Kp N h h1) ho tbl71 ?_
 simp only [Ef.settle_fst1]
 obtain ⟨M, hM⟩ : ∃ M, h.n = M + 1 := ⟨h.n - 1, by omega⟩
 refine GD ?_
 (have fct := @op_mv; refine GO ?_; clear fct)
 refine CodeK_loop (PiI s sep M h) s.length ?_ ?_
 · exact ⟨rfl, rfl, rfl, ⟨0, 0, [], _, rfl, by omega, by omega, rfl, rfl, rfl, by simp [pcs], .inl ⟨rfl, rfl⟩⟩, fun b hb => rfl, by simp; omega, by simp⟩
 intro n tm H I
 obtain ⟨i, a, R, v, hn, hi, hal, e7, e6, e5, hs, hR⟩ := I.st
 have el := I.len
 have e0 := I.t0
 have e1 := I.t1
 have hfr := I.fr
 have hlo := I.low
 have hHn := I.hn
 clear I
 have hsl := (pcs_len s sep).1
 have w0 : IntKind.wrap .i64 ((i : Int) + (sep.length : Int)) = ((i + sep.length : Nat) : Int) := by rw [Ef.wrap_small (by omega) (by omega)]; omega
 have w1 : IntKind.wrap .i64 ((i : Int) + 1) = ((i + 1 : Nat) : Int) := by rw [Ef.wrap_small (by omega) (by omega)]; omega
 have hRl : R.length ≤ 601 := by
  have := congrArg List.length hs
  rw [List.length_append] at this
  omega
 by_cases hin : i + sep.length ≤ s.length
 case neg =>
  have l1 : decide (((i + sep.length : Nat) : Int) ≤ (s.length : Int)) = false := by rw [decide_eq_false_iff_not]; omega
  rw [pcsR_end (by omega) hi] at hs
  (have fct := Fj @el (Fj @e0 (Fj @e1 (Fj @e5 (Fj @e6 (Fj @e7 (Fj @w0 @l1)))))); refine GO ?_; clear fct)
  refine R_any (by simp only [CR.wanted]) (slcS_lo (k := .i64) (s := s) (l := a) (by simp only [CA.ev, fsTm, Nat.reduceBEq, Nat.reduceLT, el, e0]) (by simp only [CA.ev, fsTm, Nat.reduceBEq, Nat.reduceLT, el, e6]) hal) (by simp only [put, List.set_cons_succ, List.set_cons_zero]; (first | done | with_reducible rfl)) ?_
  generalize s.drop a = X at *
  (have fct := Fj @el (Fj @e0 (Fj @e1 (Fj @e5 (Fj @e6 (Fj @e7 (Fj @op_litS (Fj fsReps @Fs.over.eq_1))))))); refine GO ?_; clear fct)
  have hR' : (R = [] ∧ v = .slice none 0 (.exact 0)) ∨ Ef.RowL M (H.push (.cells [.str X] false)) v R := by
   rcases hR with k | k
   · exact .inl k
   · exact .inr (k.push _)
  refine R_ex (by simp (maxDischargeDepth := 12) only [opsB, Nat.reduceEqDiff, Nat.reduceBEq, Nat.reduceBNe, Int.reduceBEq, Int.reduceBNe, Int.reduceLT, Int.reduceLE, Int.reduceEq, AV.one, AV.cells, CA.ev, abin, aint, aun, isShift, readVar, readCell, readCells, writeCells, fillA, reduceIte, Nat.reduceAdd, Nat.reduceSub, Nat.reduceLT, Nat.reduceLeDiff, resAll, resOne, AV.under, AV.unders, cut, op_append, el, e0, e5, e6, e7, fsTm, Nat.reduceBEq, Nat.reduceLT]; (first | done | with_reducible rfl)) (Ef.app_any (x := X) hR' (by simp; omega) (by omega) (Hp.get_push_self _ _)) fun v' H' hh => ?_
  obtain ⟨⟨b, cap, k1, k2, k3, rfl, k5, k6⟩, hn', hf', lo'⟩ := hh
  refine A_tm ?_
  simp only [Hp.n_push, Hp.low_push] at hn' lo'
  (have fct := Fj @el (Fj @e0 (Fj @e1 (Fj @e5 (Fj @e6 @e7)))); refine GO ?_; clear fct)
  have hv : AV.under h.n (AV.slice (some (b, 0)) (R ++ [X]).length cap) = false := by simp [AV.under]; omega
  refine ⟨.inr rfl, .slice (some (b, 0)) (R ++ [X]).length cap, by simp only [resAll, resOne, el, fsTm, Nat.reduceBEq, Nat.reduceLT], ⟨b, cap, by rw [hs], ?_, by omega, ?_⟩, Ef.kp_settle2 (by omega) (fun b' hb' => ?_) (by have := lo' hlo; omega)⟩
  · rw [Ef.get_settle hv, hs]; exact k5
  · rw [Ef.n_settle hv]; exact k2
  · rw [hf' b' (by omega), Hp.get_push_ne _ _ _ (by omega)]; exact hfr b' (by omega)
 case pos =>
 have l1 : decide (((i + sep.length : Nat) : Int) ≤ (s.length : Int)) = true := by rw [decide_eq_true_eq]; omega
 have hlt : i < s.length := by omega
 by_cases hai : a ≤ i
 case neg =>
  have l2 : decide ((a : Int) ≤ (i : Int)) = false := by rw [decide_eq_false_iff_not]; omega
  rw [pcsR_pass hlt (by omega)] at hs
  (have fct := Fj @el (Fj @e0 (Fj @e1 (Fj @e5 (Fj @e6 (Fj @e7 (Fj @w0 (Fj @w1 (Fj @l1 @l2)))))))); refine GO ?_; clear fct)
  exact ⟨s.length - (i + 1), by omega, by simp only [List.length_set, el], by simp only [fsTm, Nat.reduceBEq, Nat.reduceLT, el, e0], by simp only [fsTm, Nat.reduceBEq, Nat.reduceLT, el, e1], ⟨i + 1, a, R, v, rfl, by omega, hal, by simp only [fsTm, Nat.reduceBEq, Nat.reduceLT, el], by simp only [fsTm, Nat.reduceBEq, Nat.reduceLT, el, e6], by simp only [fsTm, Nat.reduceBEq, Nat.reduceLT, el, e5], hs, hR⟩, hfr, hlo, hHn⟩
 case pos =>
 have l2 : decide ((a : Int) ≤ (i : Int)) = true := by rw [decide_eq_true_eq]; omega
 (have fct := Fj @el (Fj @e0 (Fj @e1 (Fj @e5 (Fj @e6 (Fj @e7 (Fj @w0 (Fj @l1 @l2))))))); refine GO ?_; clear fct)
 refine R_any (by simp only [CR.wanted, fsTm, Nat.reduceBEq, Nat.reduceLT, el]; rfl) (Ef.slcS_at (k := .i64) (k' := .i64) (s := s) (l := i) (r := i + sep.length) (by simp only [CA.ev, fsTm, Nat.reduceBEq, Nat.reduceLT, el, e0]) (by simp only [CA.ev, fsTm, Nat.reduceBEq, Nat.reduceLT, el, e7]) (by simp only [CA.ev, fsTm, Nat.reduceBEq, Nat.reduceLT, el]) (by omega) hin) (by simp only [put, List.set_cons_succ, List.set_cons_zero]; (first | done | with_reducible rfl)) ?_
 rw [show i + sep.length - i = sep.length by omega]
 by_cases hq : (s.drop i).take sep.length = sep
 case neg =>
  have q1 : decide ((s.drop i).take sep.length = sep) = false := by rw [decide_eq_false_iff_not]; exact hq
  rw [pcsR_miss hlt hai hq] at hs
  generalize (s.drop i).take sep.length = X at *
  (have fct := Fj @el (Fj @e0 (Fj @e1 (Fj @e5 (Fj @e6 (Fj @e7 (Fj @w1 (Fj @q1 fsAstr))))))); refine GO ?_; clear fct)
  exact ⟨s.length - (i + 1), by omega, by simp only [List.length_set, el], by simp only [fsTm, Nat.reduceBEq, Nat.reduceLT, el, e0], by simp only [fsTm, Nat.reduceBEq, Nat.reduceLT, el, e1], ⟨i + 1, a, R, v, rfl, by omega, hal, by simp only [fsTm, Nat.reduceBEq, Nat.reduceLT, el], by simp only [fsTm, Nat.reduceBEq, Nat.reduceLT, el, e6], by simp only [fsTm, Nat.reduceBEq, Nat.reduceLT, el, e5], hs, hR⟩, hfr, hlo, hHn⟩
 case pos =>
  have q1 : decide ((s.drop i).take sep.length = sep) = true := by rw [decide_eq_true_eq]; exact hq
  rw [pcsR_hit hlt hai hq hp] at hs
  generalize (s.drop i).take sep.length = Y at *
  (have fct := Fj @el (Fj @e0 (Fj @e1 (Fj @e5 (Fj @e6 (Fj @e7 (Fj @w0 (Fj @w1 (Fj @q1 fsAstr)))))))); refine GO ?_; clear fct)
  refine R_any (by simp only [CR.wanted]) (Ef.slcS_at (k := .i64) (k' := .i64) (s := s) (l := a) (r := i) (by simp only [CA.ev, fsTm, Nat.reduceBEq, Nat.reduceLT, el, e0]) (by simp only [CA.ev, fsTm, Nat.reduceBEq, Nat.reduceLT, el, e6]) (by simp only [CA.ev, fsTm, Nat.reduceBEq, Nat.reduceLT, el, e7]) hai hi) (by simp only [put, List.set_cons_succ, List.set_cons_zero]; (first | done | with_reducible rfl)) ?_
  generalize (s.drop a).take (i - a) = X at *
  (have fct := Fj @el (Fj @e0 (Fj @e1 (Fj @e5 (Fj @e6 (Fj @e7 (Fj @op_litS (Fj fsReps @Fs.over.eq_1))))))); refine GO ?_; clear fct)
  have hR' : (R = [] ∧ v = .slice none 0 (.exact 0)) ∨ Ef.RowL M (H.push (.cells [.str X] false)) v R := by
   rcases hR with k | k
   · exact .inl k
   · exact .inr (k.push _)
  refine R_ex (by simp (maxDischargeDepth := 12) only [opsB, Nat.reduceEqDiff, Nat.reduceBEq, Nat.reduceBNe, Int.reduceBEq, Int.reduceBNe, Int.reduceLT, Int.reduceLE, Int.reduceEq, AV.one, AV.cells, CA.ev, abin, aint, aun, isShift, readVar, readCell, readCells, writeCells, fillA, reduceIte, Nat.reduceAdd, Nat.reduceSub, Nat.reduceLT, Nat.reduceLeDiff, resAll, resOne, AV.under, AV.unders, cut, op_append, el, e0, e5, e6, e7, fsTm, Nat.reduceBEq, Nat.reduceLT]; (first | done | with_reducible rfl)) (Ef.app_any (x := X) hR' (by simp; omega) (by omega) (Hp.get_push_self _ _)) fun v' H' hh => ?_
  obtain ⟨row, hn', hf', lo'⟩ := hh
  refine A_tm ?_
  simp only [Hp.n_push, Hp.low_push] at hn' lo'
  (have fct := Fj @el (Fj @e0 (Fj @e1 (Fj @e5 (Fj @e6 (Fj @e7 (Fj @w0 @w1)))))); refine GO ?_; clear fct)
  refine ⟨s.length - (i + 1), by omega, by simp only [List.length_set, el], by simp only [fsTm, Nat.reduceBEq, Nat.reduceLT, el, e0], by simp only [fsTm, Nat.reduceBEq, Nat.reduceLT, el, e1], ⟨i + 1, i + sep.length, R ++ [X], v', rfl, by omega, hin, by simp only [fsTm, Nat.reduceBEq, Nat.reduceLT, el], by simp only [fsTm, Nat.reduceBEq, Nat.reduceLT, el], by simp only [fsTm, Nat.reduceBEq, Nat.reduceLT, el], by rw [hs]; simp, .inr row⟩, fun b hb => ?_, lo' hlo, by omega⟩
  rw [hf' b hb, Hp.get_push_ne _ _ _ (by omega)]; exact hfr b hb
end Go.Proofs.Cards
