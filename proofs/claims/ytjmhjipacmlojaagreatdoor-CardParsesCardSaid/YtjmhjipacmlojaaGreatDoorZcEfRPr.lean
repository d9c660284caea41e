/- The reference's parser: a text cut at each blank, the part that words say, the whole. -/
import Derived.Test.YtjmhjipacmlojaaGreatDoorFz05
import Derived.Test.YtjmhjipacmlojaaGreatDoorZcEfRPw
import Derived.Test.YtjmhjipacmlojaaGreatDoorZcEfRPrint
namespace Go.Proofs.Ef
set_option maxRecDepth 100000
set_option maxHeartbeats 32000000
open Go Go.Fs
set_option linter.unusedSimpArgs false
set_option linter.unusedVariables false
variable {orc : Orc}
def cf58 : CF := ⟨104, [(.cell 2 (some 8))], (.seq (.region [Zo 2 (.alloc [(.int .u8 0), (.int .u8 0), (.int .u8 0), (.int .i64 0), (.int .u8 0), (.int .u8 0), (.int .u8 0), (.str [])])]) (.seq (.region [Zo 3 (.alloc [(.int .u8 0), (.int .u8 0), (.int .u8 0), (.int .i64 0), (.int .u8 0), (.int .u8 0), (.int .u8 0), (.str [])])]) (.seq (.seq (.region [Zm 8 0, Zo 9 (.lenV (.t 8)), Zb 10 .lss (.t 9) (.c (.int .i64 3))]) (.cond (.t 10) (.seq (.region [Zo 11 (.load (some 8) (.t 3)), Zn (.store 8 (.t 2) (.t 11))]) .ret) .skip)) (.seq (.regionD [⟨Zo 12 (.call (.f 86) []), 0, 1, false⟩, ⟨Zm 13 0, 0, 1, false⟩, ⟨Zo 14 (.iaddrS 1 (.t 13) (.c (.int .i64 0))), 0, 1, false⟩, ⟨Zl 15 14, 0, 1, false⟩, ⟨Zo 16 (.call (.f 102) [(.t 12), (.t 15)]), 1, 2, false⟩, ⟨Zo 17 (.toInt .u8 (.t 16)), 2, 2, false⟩, ⟨Zf 18 0 3, 2, 2, false⟩, ⟨Zn (.store 1 (.t 18) (.t 17)), 2, 3, false⟩]) (.seq (.regionD [⟨Zo 19 (.call (.f 87) []), 0, 1, false⟩, ⟨Zm 20 0, 0, 1, false⟩, ⟨Zo 21 (.iaddrS 1 (.t 20) (.c (.int .i64 1))), 0, 1, false⟩, ⟨Zl 22 21, 0, 1, false⟩, ⟨Zo 23 (.call (.f 102) [(.t 19), (.t 22)]), 1, 2, false⟩, ⟨Zo 24 (.toInt .u8 (.t 23)), 2, 2, false⟩, ⟨Zf 25 1 3, 2, 2, false⟩, ⟨Zn (.store 1 (.t 25) (.t 24)), 2, 3, false⟩]) (.seq (.regionD [⟨Zo 26 (.call (.f 88) []), 0, 1, false⟩, ⟨Zm 27 0, 0, 1, false⟩, ⟨Zo 28 (.iaddrS 1 (.t 27) (.c (.int .i64 2))), 0, 1, false⟩, ⟨Zl 29 28, 0, 1, false⟩, ⟨Zo 30 (.call (.f 102) [(.t 26), (.t 29)]), 1, 2, false⟩, ⟨Zo 31 (.toInt .u8 (.t 30)), 2, 2, false⟩, ⟨Zf 32 2 3, 2, 2, false⟩, ⟨Zn (.store 1 (.t 32) (.t 31)), 2, 3, false⟩]) (.seq (.region [Zo 33 (.build [(.bool false), (.bool false), (.bool false), (.bool false), (.bool false)] []), Zo 4 (.alloc [(.bool false), (.bool false), (.bool false), (.bool false), (.bool false)]), Zn (.store 5 (.t 4) (.t 33))]) (.seq (.region [Zf 35 1 3, Zl 36 35, Zf 37 2 3, Zl 38 37, Zo 39 (.call (.f 89) [(.t 36), (.t 38)]), Zm 34 39, Ze 40 0 34, Ze 41 1 34, Ze 42 2 34, Ze 43 3 34, Ze 44 4 34, Zo 45 (.iaddrA 5 1 (.t 4) (.c (.int .i64 0))), Zn (.store 1 (.t 45) (.t 40)), Zo 46 (.iaddrA 5 1 (.t 4) (.c (.int .i64 1))), Zn (.store 1 (.t 46) (.t 41)), Zo 47 (.iaddrA 5 1 (.t 4) (.c (.int .i64 2))), Zn (.store 1 (.t 47) (.t 42)), Zo 48 (.iaddrA 5 1 (.t 4) (.c (.int .i64 3))), Zn (.store 1 (.t 48) (.t 43)), Zo 49 (.iaddrA 5 1 (.t 4) (.c (.int .i64 4))), Zn (.store 1 (.t 49) (.t 44))]) (.seq (.region [Zo 5 (.mv (.c (.int .i64 3)))]) (.seq (.seq (.region [Zo 6 (.mv (.c (.int .i64 0)))]) (.block 0 (.loop (.seq (.seq (.region [Zm 50 6, Zb 51 .lss (.t 50) (.c (.int .i64 5)), Zm 52 51, Zg 53 (.mv (.t 5)) 52 true, Zg 54 (.mv (.t 0)) 52 true, Zg 55 (.lenV (.t 54)) 52 true, Zg 56 (.bin .lss .other (.t 53) (.t 55)) 52 true, Zo 57 (.pick (.t 52) (.t 56) (.c (.bool false)))]) (.cond (.t 57) .skip (.exit 0))) (.seq (.block 1 (.seq (.seq (.region [Zm 60 6, Zo 61 (.iaddrA 5 1 (.t 4) (.t 60)), Zl 62 61, Zo 63 (.un .not (.t 62))]) (.cond (.t 63) (.exit 1) .skip)) (.seq (.region [Zm 64 0, Zm 65 5, Zo 66 (.iaddrS 1 (.t 64) (.t 65)), Zl 67 66, Zm 7 67]) (.seq (.region [Zm 68 5, Zb 69 .add (.t 68) (.c (.int .i64 1)), Zm 5 69]) (.seq (.region [Zm 70 6]) (.block 2 (.seq (.region [Zb 72 .eql (.t 70) (.c (.int .i64 0)), Zm 71 72]) (.cond (.t 71) (.region [Zm 73 7, Zo 74 (.call (.f 103) [(.t 73)]), Zf 75 3 3, Zn (.store 1 (.t 75) (.t 74))]) (.seq (.region [Zb 77 .eql (.t 70) (.c (.int .i64 1)), Zm 76 77]) (.cond (.t 76) (.region [Zm 79 7, Zo 80 (.call (.f 104) [(.t 79)]), Zm 78 80, Ze 81 0 78, Ze 82 1 78, Zf 83 4 3, Zn (.store 1 (.t 83) (.t 81))]) (.seq (.region [Zb 85 .eql (.t 70) (.c (.int .i64 2)), Zm 84 85]) (.cond (.t 84) (.region [Zm 87 7, Zo 88 (.call (.f 105) [(.t 87)]), Zm 86 88, Ze 89 0 86, Ze 90 1 86, Zf 91 5 3, Zn (.store 1 (.t 91) (.t 89))]) (.seq (.region [Zb 93 .eql (.t 70) (.c (.int .i64 3)), Zm 92 93]) (.cond (.t 92) (.region [Zm 94 7, Zo 95 (.call (.f 103) [(.t 94)]), Zb 96 .rem (.t 95) (.c (.int .i64 200)), Zo 97 (.toInt .u8 (.t 96)), Zf 98 6 3, Zn (.store 1 (.t 98) (.t 97))]) (.seq (.region [Zb 100 .eql (.t 70) (.c (.int .i64 4)), Zm 99 100]) (.cond (.t 99) (.region [Zm 101 7, Zf 102 7 3, Zn (.store 1 (.t 102) (.t 101))]) .skip)))))))))))))))) (.region [Zm 58 6, Zb 59 .add (.t 58) (.c (.int .i64 1)), Zm 6 59])))))) (.seq (.region [Zo 103 (.load (some 8) (.t 3)), Zn (.store 8 (.t 2) (.t 103))]) .ret)))))))))))⟩
def cf21 : CF := ⟨28, [(.cell 2 (some 8)), (.tmp 3)], (.seq (.region [Zo 2 (.alloc [(.int .u8 0), (.int .u8 0), (.int .u8 0), (.int .i64 0), (.int .u8 0), (.int .u8 0), (.int .u8 0), (.str [])]), Zo 3 (.mv (.c (.int .i64 0)))]) (.seq (.seq (.region [Zm 7 0, Zo 8 (.lenS (.t 7)), Zb 9 .gtr (.t 8) (.c (.int .i64 80))]) (.cond (.t 9) (.seq (.region [Zo 10 (.build [(.int .u8 0), (.int .u8 0), (.int .u8 0), (.int .i64 0), (.int .u8 0), (.int .u8 0), (.int .u8 0), (.str [])] []), Zn (.store 8 (.t 2) (.t 10)), Zo 3 (.mv (.c (.int .i64 3)))]) .ret) .skip)) (.seq (.region [Zm 11 0, Zo 12 (.call (.f 59) [(.t 11)]), Zo 13 (.call (.f 58) [(.t 12)]), Zo 4 (.alloc [(.int .u8 0), (.int .u8 0), (.int .u8 0), (.int .i64 0), (.int .u8 0), (.int .u8 0), (.int .u8 0), (.str [])]), Zn (.store 8 (.t 4) (.t 13))]) (.seq (.region [Zo 15 (.load (some 8) (.t 4)), Zo 16 (.call (.f 42) [(.t 15)]), Zm 14 16, Ze 17 0 14, Ze 18 1 14, Zm 5 17, Zm 6 18]) (.seq (.seq (.region [Zm 19 6, Zb 20 .neq (.t 19) (.c (.int .i64 0)), Zm 21 20, Zg 22 (.mv (.t 5)) 21 false, Zg 23 (.mv (.t 0)) 21 false, Zg 24 (.bin .neq .other (.t 22) (.t 23)) 21 false, Zo 25 (.pick (.t 21) (.c (.bool true)) (.t 24))]) (.cond (.t 25) (.seq (.region [Zo 26 (.build [(.int .u8 0), (.int .u8 0), (.int .u8 0), (.int .i64 0), (.int .u8 0), (.int .u8 0), (.int .u8 0), (.str [])] []), Zn (.store 8 (.t 2) (.t 26)), Zo 3 (.mv (.c (.int .i64 150)))]) .ret) .skip)) (.seq (.region [Zo 27 (.load (some 8) (.t 4)), Zn (.store 8 (.t 2) (.t 27)), Zo 3 (.mv (.c (.int .i64 0)))]) .ret))))))⟩
theorem tbl58 : tbl Tryz.prog 58 = some cf58 := by kernel_rfl
theorem tbl21 : tbl Tryz.prog 21 = some cf21 := by kernel_rfl
structure CuI (s : List UInt8) (M : Nat) (h0 : AH) (n : Nat) (tm : List AV) (H : AH) : Prop where
 len : tm.length = 32
 t0 : tm.getD 0 AV.undef = .str s
 st : ∃ (i a : Nat) (R : List (List UInt8)) (v : AV), n = s.length + 1 - i ∧ i ≤ s.length + 1 ∧ tm.getD 5 AV.undef = .int .i64 (i : Int) ∧ tm.getD 4 AV.undef = .int .i64 (a : Int) ∧ tm.getD 3 AV.undef = v ∧
  ((i ≤ s.length ∧ a ≤ i ∧ Lib.split s [32] = R ++ Lib.split (s.drop a) [32] ∧ noB32 s a i) ∨ (i = s.length + 1 ∧ Lib.split s [32] = R)) ∧ ((R = [] ∧ v = .slice none 0 (.exact 0)) ∨ RowL M H v R)
 fr : ∀ b, b ≤ M → H.get b = h0.get b
 low : M ≤ H.low
 hn : h0.n ≤ H.n
theorem cut_spec (N : Nat) (ho : orc 59 = none) (s : List UInt8) (hl : s.length ≤ 500) {h : AH} (hN : N < h.n) : ∃ v1 h1, acall orc T 59 [.str s] h = some (v1, h1) ∧
    (∃ b cap, v1 = .slice (some (b, 0)) (Lib.split s [32]).length cap ∧ h1.get b = some (.cells ((Lib.split s [32]).map AV.str) false) ∧ h.n ≤ b ∧ b < h1.n ∧ (cap = .opn 1 ∨ cap = .exact (Lib.split s [32]).length) ∧ Kp N h h1) := by
 refine acall_facts (R := fun v1 h1 => ∃ b cap, v1 = .slice (some (b, 0)) (Lib.split s [32]).length cap ∧ h1.get b = some (.cells ((Lib.split s [32]).map AV.str) false) ∧ h.n ≤ b ∧ b < h1.n ∧ (cap = .opn 1 ∨ cap = .exact (Lib.split s [32]).length) ∧ Kp N h h1) ho tbl59 ?_
 simp only [settle_fst1]
 obtain ⟨M, hM⟩ : ∃ M, h.n = M + 1 := ⟨h.n - 1, by omega⟩
 refine GD ?_
 (have fct := @op_mv; refine GO ?_; clear fct)
 refine CodeK_loop (CuI s M h) (s.length + 1) ?_ ?_
 · exact ⟨rfl, rfl, ⟨0, 0, [], _, rfl, by omega, rfl, rfl, rfl, .inl ⟨by omega, by omega, by simp, fun j c h1 h2 => by omega⟩, .inl ⟨rfl, rfl⟩⟩, fun b hb => rfl, by simp; omega, by simp⟩
 intro n tm H I
 obtain ⟨i, a, R, v, hn, hi, e5, e4, e3, hs, hR⟩ := I.st
 have el := I.len
 have e0 := I.t0
 have hfr := I.fr
 have hlo := I.low
 have hHn := I.hn
 clear I
 have hsl := (Plain.split_len s).1
 rcases hs with ⟨h1, h2, h3, h4⟩ | ⟨h1, h2⟩
 case inr =>
  subst h1 h2
  have l1 : decide (((s.length + 1 : Nat) : Int) ≤ (s.length : Int)) = false := by rw [decide_eq_false_iff_not]; omega
  obtain ⟨b, cap, k1, k2, k3, rfl, k5, k6⟩ : RowL M H v (Lib.split s [32]) := by
   rcases hR with ⟨k, _⟩ | k
   · exact absurd k (by unfold Lib.split; exact Plain.splitK_ne_nil _ _)
   · exact k
  (have fct := Fj @el (Fj @e0 (Fj @e3 (Fj @e4 (Fj @e5 @l1)))); refine GO ?_; clear fct)
  have hv : AV.under h.n (AV.slice (some (b, 0)) (Lib.split s [32]).length cap) = false := by simp [AV.under]; omega
  refine ⟨.inr rfl, .slice (some (b, 0)) (Lib.split s [32]).length cap, by simp only [resAll, resOne, el, e3, fsTm, Nat.reduceBEq, Nat.reduceLT], b, cap, rfl, ?_, by omega, ?_, k3, kp_settle2 hHn (fun b' hb' => hfr b' (by omega)) (by omega)⟩
  · rw [get_settle hv]; exact k5
  · rw [n_settle hv]; exact k2
 case inl =>
 have l1 : decide ((i : Int) ≤ (s.length : Int)) = true := by rw [decide_eq_true_eq]; omega
 have w1 := wrap_small (n := (i : Int) + 1) (by omega) (by omega)
 have hRl : R.length ≤ 501 := by
  have : R.length ≤ (Lib.split s [32]).length := by rw [h3]; simp
  omega
 by_cases hil : i = s.length
 case pos =>
  subst hil
  have q1 : ((s.length : Int) == (s.length : Int)) = true := by simp
  have hx : Lib.split s [32] = R ++ [(s.drop a).take (s.length - a)] := by rw [h3, split_last h4]
  (have fct := Fj @el (Fj @e0 (Fj @e3 (Fj @e4 (Fj @e5 (Fj @l1 @q1))))); refine GO ?_; clear fct)
  refine R_cons (slcS_at (k := .i64) (k' := .i64) (s := s) (l := a) (r := s.length) (by simp only [CA.ev, fsTm, Nat.reduceBEq, Nat.reduceLT, el, e0]) (by simp only [CA.ev, fsTm, Nat.reduceBEq, Nat.reduceLT, el, e4]) (by simp only [CA.ev, fsTm, Nat.reduceBEq, Nat.reduceLT, el, e5]) h2 (Nat.le_refl _)) (by simp only [put, List.set_cons_succ, List.set_cons_zero]; (first | done | with_reducible rfl)) ?_
  generalize (s.drop a).take (s.length - a) = X at *
  (have fct := Fj @el (Fj @e0 (Fj @e3 (Fj @e4 (Fj @e5 (Fj @op_litS (Fj fsReps @Fs.over.eq_1)))))); refine GO ?_; clear fct)
  have hR' : (R = [] ∧ v = .slice none 0 (.exact 0)) ∨ RowL M (H.push (.cells [.str X] false)) v R := by
   rcases hR with k | k
   · exact .inl k
   · exact .inr (k.push _)
  refine R_ex (by simp (maxDischargeDepth := 12) only [opsB, Nat.reduceEqDiff, Nat.reduceBEq, Nat.reduceBNe, Int.reduceBEq, Int.reduceBNe, Int.reduceLT, Int.reduceLE, Int.reduceEq, AV.one, AV.cells, CA.ev, abin, aint, aun, isShift, readVar, readCell, readCells, writeCells, fillA, reduceIte, Nat.reduceAdd, Nat.reduceSub, Nat.reduceLT, Nat.reduceLeDiff, resAll, resOne, AV.under, AV.unders, cut, op_append, el, e0, e3, e4, e5, fsTm, Nat.reduceBEq, Nat.reduceLT]; (first | done | with_reducible rfl)) (app_any (x := X) hR' (by simp; omega) (by omega) (Hp.get_push_self _ _)) fun v' H' hh => ?_
  obtain ⟨row, hn', hf', lo'⟩ := hh
  simp only [Hp.n_push, Hp.low_push] at hn' lo'
  (have fct := Fj @el (Fj @e0 (Fj @e3 (Fj @e4 (Fj @e5 @w1)))); refine GO ?_; clear fct)
  refine ⟨s.length + 1 - (s.length + 1), by omega, by simp only [List.length_set, el], by simp only [fsTm, Nat.reduceBEq, Nat.reduceLT, el, e0], ⟨s.length + 1, s.length + 1, R ++ [X], v', rfl, by omega, by simp only [fsTm, Nat.reduceBEq, Nat.reduceLT, el]; rfl, by simp only [fsTm, Nat.reduceBEq, Nat.reduceLT, el]; rfl, by simp only [fsTm, Nat.reduceBEq, Nat.reduceLT, el], .inr ⟨rfl, hx⟩, .inr row⟩, fun b hb => ?_, lo' hlo, by omega⟩
  rw [hf' b hb, Hp.get_push_ne _ _ _ (by omega)]; exact hfr b hb
 case neg =>
 have hlt : i < s.length := by omega
 have q1 : ((i : Int) == (s.length : Int)) = false := by rw [beq_eq_false_iff_ne]; omega
 obtain ⟨c, hc⟩ : ∃ c, s[i]? = some c := ⟨_, List.getElem?_eq_getElem hlt⟩
 have x1 := fun (hh : AH) => idxSV_nat hc .i64 hh
 cases hq : ((c.toNat : Int) == 32) with
 | true =>
   have hc32 : c = 32 := by
    have h5 : (c.toNat : Int) = 32 := by simpa using hq
    have h6 : c.toNat = 32 := by omega
    exact UInt8.toNat_inj.1 h6
   have hx : Lib.split s [32] = (R ++ [(s.drop a).take (i - a)]) ++ Lib.split (s.drop (i + 1)) [32] := by
    rw [h3, split_blank h2 (hc32 ▸ hc) h4]; simp
   (have fct := Fj @el (Fj @e0 (Fj @e3 (Fj @e4 (Fj @e5 (Fj @l1 (Fj @q1 (Fj @op_idxS (Fj @x1 @hq)))))))); refine GO ?_; clear fct)
   refine R_cons (slcS_at (k := .i64) (k' := .i64) (s := s) (l := a) (r := i) (by simp only [CA.ev, fsTm, Nat.reduceBEq, Nat.reduceLT, el, e0]) (by simp only [CA.ev, fsTm, Nat.reduceBEq, Nat.reduceLT, el, e4]) (by simp only [CA.ev, fsTm, Nat.reduceBEq, Nat.reduceLT, el, e5]) h2 (Nat.le_of_lt hlt)) (by simp only [put, List.set_cons_succ, List.set_cons_zero]; (first | done | with_reducible rfl)) ?_
   generalize (s.drop a).take (i - a) = X at *
   (have fct := Fj @el (Fj @e0 (Fj @e3 (Fj @e4 (Fj @e5 (Fj @op_litS (Fj fsReps @Fs.over.eq_1)))))); refine GO ?_; clear fct)
   have hR' : (R = [] ∧ v = .slice none 0 (.exact 0)) ∨ RowL M (H.push (.cells [.str X] false)) v R := by
    rcases hR with k | k
    · exact .inl k
    · exact .inr (k.push _)
   refine R_ex (by simp (maxDischargeDepth := 12) only [opsB, Nat.reduceEqDiff, Nat.reduceBEq, Nat.reduceBNe, Int.reduceBEq, Int.reduceBNe, Int.reduceLT, Int.reduceLE, Int.reduceEq, AV.one, AV.cells, CA.ev, abin, aint, aun, isShift, readVar, readCell, readCells, writeCells, fillA, reduceIte, Nat.reduceAdd, Nat.reduceSub, Nat.reduceLT, Nat.reduceLeDiff, resAll, resOne, AV.under, AV.unders, cut, op_append, el, e0, e3, e4, e5, fsTm, Nat.reduceBEq, Nat.reduceLT]; (first | done | with_reducible rfl)) (app_any (x := X) hR' (by simp; omega) (by omega) (Hp.get_push_self _ _)) fun v' H' hh => ?_
   obtain ⟨row, hn', hf', lo'⟩ := hh
   simp only [Hp.n_push, Hp.low_push] at hn' lo'
   (have fct := Fj @el (Fj @e0 (Fj @e3 (Fj @e4 (Fj @e5 @w1)))); refine GO ?_; clear fct)
   refine ⟨s.length + 1 - (i + 1), by omega, by simp only [List.length_set, el], by simp only [fsTm, Nat.reduceBEq, Nat.reduceLT, el, e0], ⟨i + 1, i + 1, R ++ [X], v', rfl, by omega, by simp only [fsTm, Nat.reduceBEq, Nat.reduceLT, el]; rfl, by simp only [fsTm, Nat.reduceBEq, Nat.reduceLT, el]; rfl, by simp only [fsTm, Nat.reduceBEq, Nat.reduceLT, el], .inl ⟨by omega, by omega, hx, fun j c' k1 k2 => by omega⟩, .inr row⟩, fun b hb => ?_, lo' hlo, by omega⟩
   rw [hf' b hb, Hp.get_push_ne _ _ _ (by omega)]; exact hfr b hb
 | false =>
   have hc32 : c ≠ 32 := by
    rintro rfl
    exact absurd hq (by decide)
   (have fct := Fj @el (Fj @e0 (Fj @e3 (Fj @e4 (Fj @e5 (Fj @l1 (Fj @q1 (Fj @op_idxS (Fj @x1 (Fj @hq @w1))))))))); refine GO ?_; clear fct)
   refine ⟨s.length + 1 - (i + 1), by omega, by simp only [List.length_set, el], by simp only [fsTm, Nat.reduceBEq, Nat.reduceLT, el, e0], ⟨i + 1, a, R, v, rfl, by omega, by simp only [fsTm, Nat.reduceBEq, Nat.reduceLT, el]; rfl, by simp only [fsTm, Nat.reduceBEq, Nat.reduceLT, el, e4], by simp only [fsTm, Nat.reduceBEq, Nat.reduceLT, el, e3], .inl ⟨by omega, by omega, h3, fun j c' k1 k2 k3 => ?_⟩, hR⟩, hfr, hlo, hHn⟩
   rcases Nat.lt_succ_iff_lt_or_eq.1 k2 with k2 | rfl
   · exact h4 j c' k1 k2 k3
   · rw [hc] at k3; cases k3; exact hc32
structure RS (h0 : AH) (N b : Nat) (ro : Bool) (L : List (List UInt8)) (P : List AV) (h : AH) : Prop where
 gr : Grown h0 h
 g0 : h0.n ≤ N
 low : N ≤ h.low
 row : h.get b = some (.cells (L.map AV.str) ro)
 res : h.get N = some (.cells zeroP false)
 part : h.get (N + 1) = some (.cells P false)
 n : b < N ∧ N + 1 < h.n
theorem RS.kp {h0 h h1 : AH} {N b : Nat} {ro : Bool} {L : List (List UInt8)} {P : List AV} (I : RS h0 N b ro L P h) (k : Kp N h h1) : RS h0 N b ro L P h1 := by
 have hn := I.n
 have kn := k.n
 refine ⟨Grown.kp I.gr k, I.g0, k.low (by omega) I.low, ?_, ?_, ?_, hn.1, by omega⟩
 · rw [k.get b (by omega)]; exact I.row
 · rw [k.get N (by omega)]; exact I.res
 · rw [k.get (N + 1) (by omega)]; exact I.part
theorem RS.store {h0 h : AH} {N b : Nat} {ro : Bool} {L : List (List UInt8)} {P : List AV} (I : RS h0 N b ro L P h) (P' : List AV) : RS h0 N b ro L P' (h.set (N + 1) (.cells P' false)) := by
 have hn := I.n
 have hg := I.g0
 refine ⟨I.gr.set (by omega) _, I.g0, ?_, ?_, ?_, Hp.get_set_self _ _ _, by simpa using hn⟩
 · have := I.low; simp; omega
 · rw [Hp.get_set_ne _ _ _ _ (by omega)]; exact I.row
 · rw [Hp.get_set_ne _ _ _ _ (by omega)]; exact I.res
theorem RS.push {h0 h : AH} {N b : Nat} {ro : Bool} {L : List (List UInt8)} {P : List AV} (I : RS h0 N b ro L P h) (c : Blk) : RS h0 N b ro L P (h.push c) := by
 have hn := I.n
 refine ⟨I.gr.push _, I.g0, by have := I.low; simpa using this, ?_, ?_, ?_, hn.1, by simp; omega⟩
 · rw [Hp.get_push_ne _ _ _ (by omega)]; exact I.row
 · rw [Hp.get_push_ne _ _ _ (by omega)]; exact I.res
 · rw [Hp.get_push_ne _ _ _ (by omega)]; exact I.part
theorem RS.set {h0 h : AH} {N b : Nat} {ro : Bool} {L : List (List UInt8)} {P : List AV} (I : RS h0 N b ro L P h) {k : Nat} (hk : N + 1 < k) (c : Blk) : RS h0 N b ro L P (h.set k c) := by
 have hn := I.n
 have hg := I.g0
 refine ⟨I.gr.set (by omega) _, I.g0, by have := I.low; simp; omega, ?_, ?_, ?_, hn.1, by simpa using hn.2⟩
 · rw [Hp.get_set_ne _ _ _ _ (by omega)]; exact I.row
 · rw [Hp.get_set_ne _ _ _ _ (by omega)]; exact I.res
 · rw [Hp.get_set_ne _ _ _ _ (by omega)]; exact I.part
theorem over_0 (w v m c s t k : Int) (nm : List UInt8) (x : Int) : Fs.over (part w v m c s t k nm) 0 [.int .u8 x] = part x v m c s t k nm := rfl
theorem over_1 (w v m c s t k : Int) (nm : List UInt8) (x : Int) : Fs.over (part w v m c s t k nm) 1 [.int .u8 x] = part w x m c s t k nm := rfl
theorem over_2 (w v m c s t k : Int) (nm : List UInt8) (x : Int) : Fs.over (part w v m c s t k nm) 2 [.int .u8 x] = part w v x c s t k nm := rfl
theorem iaddrA5 (b o : Nat) (h : AH) : iaddrAV 5 1 (.ptr (some (b, o))) (.int .i64 0) h = some (.ptr (some (b, o)), h) ∧ iaddrAV 5 1 (.ptr (some (b, o))) (.int .i64 1) h = some (.ptr (some (b, o + 1)), h) ∧ iaddrAV 5 1 (.ptr (some (b, o))) (.int .i64 2) h = some (.ptr (some (b, o + 2)), h) ∧ iaddrAV 5 1 (.ptr (some (b, o))) (.int .i64 3) h = some (.ptr (some (b, o + 3)), h) ∧ iaddrAV 5 1 (.ptr (some (b, o))) (.int .i64 4) h = some (.ptr (some (b, o + 4)), h) := ⟨rfl, rfl, rfl, rfl, rfl⟩
def markR (n : Int) : Int := IntKind.wrap .u8 (n.tmod 200)
section
variable (w v m : Int) (R : List (List UInt8))
def stR : Nat → List (List UInt8)
 | 0 => R
 | 1 => q1 v m R
 | 2 => q2 v m R
 | 3 => q3 v m R
 | 4 => q4 v m R
 | _ => nextR (uN v) (q4 v m R)
def xC : Int := numF (nextW (uC v) R)
def xS : Int := (suitR (nextW (uS v m) (q1 v m R))).1
def xT : Int := (traitOf (nextW (uT v m) (q2 v m R))).1
def xK : Int := markR (numF (nextW (uM v) (q3 v m R)))
def xN : List UInt8 := nextW (uN v) (q4 v m R)
def stP : Nat → List AV
 | 0 => part w v m 0 0 0 0 []
 | 1 => part w v m (xC v R) 0 0 0 []
 | 2 => part w v m (xC v R) (xS v m R) 0 0 []
 | 3 => part w v m (xC v R) (xS v m R) (xT v m R) 0 []
 | 4 => part w v m (xC v R) (xS v m R) (xT v m R) (xK v m R) []
 | _ => part w v m (xC v R) (xS v m R) (xT v m R) (xK v m R) (xN v m R)
end
theorem nextW_nil (u : Bool) : nextW u [] = [] := by cases u <;> rfl
theorem nextR_nil (u : Bool) : nextR u [] = [] := by cases u <;> rfl
theorem numF_nil : numF [] = 0 := by decide +kernel
theorem suitR_nil : (suitR []).1 = 0 := by decide +kernel
theorem markR_zero : markR 0 = 0 := by decide +kernel
theorem stP_end (w v m : Int) (R : List (List UInt8)) {k : Nat} (hk : k ≤ 5) (h : stR v m R k = []) : stP w v m R k = stP w v m R 5 := by
 have : k = 0 ∨ k = 1 ∨ k = 2 ∨ k = 3 ∨ k = 4 ∨ k = 5 := by omega
 rcases this with rfl | rfl | rfl | rfl | rfl | rfl <;> simp only [stR] at h <;> simp only [stP, xC, xS, xT, xK, xN, q4, q3, q2, q1] at h ⊢ <;>
  simp only [h, nextW_nil, nextR_nil, numF_nil, suitR_nil, trait_none, markR_zero]
structure RdI (h0 : AH) (N b U : Nat) (ro : Bool) (L : List (List UInt8)) (cap : Cap) (w v m : Int) (n : Nat) (tm : List AV) (h : AH) : Prop where
 len : tm.length = 104
 t0 : tm.getD 0 AV.undef = .slice (some (b, 0)) L.length cap
 t2 : tm.getD 2 AV.undef = .ptr (some (N, 0))
 t3 : tm.getD 3 AV.undef = .ptr (some (N + 1, 0))
 t4 : tm.getD 4 AV.undef = .ptr (some (U, 0))
 us : h.get U = some (.cells [.bool (uC v), .bool (uS v m), .bool (uT v m), .bool (uM v), .bool (uN v)] false)
 un : N + 1 < U ∧ U < h.n
 st : ∃ k a : Nat, n = 5 - k ∧ k ≤ 5 ∧ tm.getD 6 AV.undef = .int .i64 (k : Int) ∧ tm.getD 5 AV.undef = .int .i64 (a : Int) ∧ a ≤ L.length ∧ L.drop a = stR v m (L.drop 3) k ∧ RS h0 N b ro L (stP w v m (L.drop 3) k) h
theorem read_spec (N : Nat) {h0 : AH} (ho : ∀ f, f ∈ [58, 102, 103, 104, 105, 120, 86, 87, 88, 89, 121] → orc f = none) (hT : Told orc h0) (L : List (List UInt8)) (b : Nat) (cap : Cap) (hl : L.length ≤ 500) (h3 : 3 ≤ L.length) {h : AH} (hN : h.n = N) (hg : Grown h0 h) (hb : h.get b = some (.cells (L.map AV.str) false)) (hbn : b < h.n) :
    acall orc T 58 [.slice (some (b, 0)) L.length cap] h = some (.agg (stP (rW L) (rV L) (rM L) (L.drop 3) 5), h) := by
 refine acall_sym (ho _ (by simp)) tbl58 ?_
 have l1 : decide ((L.length : Int) < 3) = false := by rw [decide_eq_false_iff_not]; omega
 obtain ⟨x0, hx0⟩ : ∃ x, L[0]? = some x := ⟨_, List.getElem?_eq_getElem (show 0 < L.length by omega)⟩
 obtain ⟨x1, hx1⟩ : ∃ x, L[1]? = some x := ⟨_, List.getElem?_eq_getElem (show 1 < L.length by omega)⟩
 obtain ⟨x2, hx2⟩ : ∃ x, L[2]? = some x := ⟨_, List.getElem?_eq_getElem (show 2 < L.length by omega)⟩
 have m0 : (L.map AV.str)[0]? = some (.str x0) := by rw [List.getElem?_map, hx0]; rfl
 have m1 : (L.map AV.str)[1]? = some (.str x1) := by rw [List.getElem?_map, hx1]; rfl
 have m2 : (L.map AV.str)[2]? = some (.str x2) := by rw [List.getElem?_map, hx2]; rfl
 have a0 := fun (hh : AH) => iaddrV_at (h := hh) (esz := 1) (b := b) (o := 0) (len := L.length) (c := cap) (k := .i64) (n := 0) (by omega) (by omega)
 have a1 := fun (hh : AH) => iaddrV_at (h := hh) (esz := 1) (b := b) (o := 0) (len := L.length) (c := cap) (k := .i64) (n := 1) (by omega) (by omega)
 have a2 := fun (hh : AH) => iaddrV_at (h := hh) (esz := 1) (b := b) (o := 0) (len := L.length) (c := cap) (k := .i64) (n := 2) (by omega) (by omega)
 have eW : rW L = posI whenL x0 + 1 := by unfold rW; rw [List.getD_eq_getElem?_getD, hx0]; rfl
 have eV : rV L = posI verbL x1 + 1 := by unfold rV; rw [List.getD_eq_getElem?_getD, hx1]; rfl
 have eM : rM L = posI whomL x2 + 1 := by unfold rM; rw [List.getD_eq_getElem?_getD, hx2]; rfl
 have t1 := posI_range whenL x0
 have t2 := posI_range verbL x1
 have t3 := posI_range whomL x2
 have t4 : whenL.length = 6 := rfl
 have t5 : verbL.length = 19 := rfl
 have t6 : whomL.length = 10 := rfl
 have w0 := wrap_u8i (n := posI whenL x0) (by omega) (by omega)
 have w1 := wrap_u8i (n := posI verbL x1) (by omega) (by omega)
 have w2 := wrap_u8i (n := posI whomL x2) (by omega) (by omega)
 rw [eW, eV, eM]
 refine GD ?_
 (have fct := @l1; refine GOD ?_; clear fct)
 rw [hN]
 refine D_heap (RS h0 N b false L (part 0 0 0 0 0 0 0 [])) ?_ (fun H0 I0 => ?_)
 · refine ⟨((hg.low _).push _).push _, by have := hg.1; omega, by simp, ?_, ?_, ?_, by omega, by simp; omega⟩
   · rw [Hp.get_push_ne _ _ _ (by simp; omega), Hp.get_push_ne _ _ _ (by simp; omega)]; exact hb
   · rw [Hp.get_push_ne _ _ _ (by simp; omega), ← hN]; exact Hp.get_push_self _ _
   · rw [← hN]; exact Hp.get_push_self _ _
 refine D_ex rfl rfl (by simp (maxDischargeDepth := 12) only [opsB, Nat.reduceEqDiff, Nat.reduceBEq, Nat.reduceBNe, Int.reduceBEq, Int.reduceBNe, Int.reduceLT, Int.reduceLE, Int.reduceEq, AV.one, AV.cells, CA.ev, abin, aint, aun, isShift, readVar, readCell, readCells, writeCells, fillA, reduceIte, Nat.reduceAdd, Nat.reduceSub, Nat.reduceLT, Nat.reduceLeDiff, resAll, resOne, AV.under, AV.unders, cut]; (first | done | with_reducible rfl)) (rwhens_spec N (ho _ (by simp)) _) fun v0 G0 hh => ?_
 obtain ⟨d0, rfl, g0, n0, kp0⟩ := hh
 refine A_dtm ?_
 have K0 := I0.kp kp0
 have r0 := I0.row
 have s0 := K0.row
 have p0 := K0.part
 have c0 := place_spec (orc := orc) (ho _ (by simp)) whenL x0 d0 (.exact 6) false (by decide) g0
 simp only [show whenL.length = 6 from rfl] at c0
 (have fct := Fj @r0 (Fj @s0 (Fj @p0 (Fj @c0 (Fj @a0 (Fj @m0 (Fj @w0 (Fj @over_0 (Fj @part_len (Fj @Nat.mul_one (Fj @Nat.zero_mul (Fj @Int.toNat_zero @Int.toNat_one))))))))))); refine GOD ?_; clear fct)
 refine D_heap (RS h0 N b false L (part (posI whenL x0 + 1) 0 0 0 0 0 0 [])) (K0.store _) (fun H1 I1 => ?_)
 refine D_ex rfl rfl (by simp (maxDischargeDepth := 12) only [opsB, Nat.reduceEqDiff, Nat.reduceBEq, Nat.reduceBNe, Int.reduceBEq, Int.reduceBNe, Int.reduceLT, Int.reduceLE, Int.reduceEq, AV.one, AV.cells, CA.ev, abin, aint, aun, isShift, readVar, readCell, readCells, writeCells, fillA, reduceIte, Nat.reduceAdd, Nat.reduceSub, Nat.reduceLT, Nat.reduceLeDiff, resAll, resOne, AV.under, AV.unders, cut]; (first | done | with_reducible rfl)) (rverbs_spec N (ho _ (by simp)) _) fun v1 G1 hh => ?_
 obtain ⟨d1, rfl, g1, n1, kp1⟩ := hh
 refine A_dtm ?_
 have K1 := I1.kp kp1
 have r1 := I1.row
 have s1 := K1.row
 have p1 := K1.part
 have c1 := place_spec (orc := orc) (ho _ (by simp)) verbL x1 d1 (.exact 19) false (by decide) g1
 simp only [show verbL.length = 19 from rfl] at c1
 (have fct := Fj @r1 (Fj @s1 (Fj @p1 (Fj @c1 (Fj @a1 (Fj @m1 (Fj @w1 (Fj @over_1 (Fj @part_len (Fj @Nat.mul_one (Fj @Nat.zero_mul (Fj @Int.toNat_zero @Int.toNat_one))))))))))); refine GOD ?_; clear fct)
 refine D_heap (RS h0 N b false L (part (posI whenL x0 + 1) (posI verbL x1 + 1) 0 0 0 0 0 [])) (K1.store _) (fun H2 I2 => ?_)
 refine D_ex rfl rfl (by simp (maxDischargeDepth := 12) only [opsB, Nat.reduceEqDiff, Nat.reduceBEq, Nat.reduceBNe, Int.reduceBEq, Int.reduceBNe, Int.reduceLT, Int.reduceLE, Int.reduceEq, AV.one, AV.cells, CA.ev, abin, aint, aun, isShift, readVar, readCell, readCells, writeCells, fillA, reduceIte, Nat.reduceAdd, Nat.reduceSub, Nat.reduceLT, Nat.reduceLeDiff, resAll, resOne, AV.under, AV.unders, cut]; (first | done | with_reducible rfl)) (rwhoms_spec N (ho _ (by simp)) _) fun v2 G2 hh => ?_
 obtain ⟨d2, rfl, g2, n2, kp2⟩ := hh
 refine A_dtm ?_
 have K2 := I2.kp kp2
 have r2 := I2.row
 have s2 := K2.row
 have p2 := K2.part
 have c2 := place_spec (orc := orc) (ho _ (by simp)) whomL x2 d2 (.exact 10) false (by decide) g2
 simp only [show whomL.length = 10 from rfl] at c2
 (have fct := Fj @r2 (Fj @s2 (Fj @p2 (Fj @c2 (Fj @a2 (Fj @m2 (Fj @w2 (Fj @over_2 (Fj @part_len (Fj @Nat.mul_one (Fj @Nat.zero_mul (Fj @Int.toNat_zero @Int.toNat_one))))))))))); refine GOD ?_; clear fct)
 clear r0 s0 p0 c0 g0 n0 kp0 K0 I0 r1 s1 p1 c1 g1 n1 kp1 K1 I1 r2 s2 p2 c2 g2 n2 kp2 I2 a0 a1 a2 m0 m1 m2 w0 w1 w2 t1 t2 t3 t4 t5 t6 hx0 hx1 hx2 eW eV eM l1
 generalize posI whenL x0 + 1 = w at *
 generalize posI verbL x1 + 1 = v at *
 generalize posI whomL x2 + 1 = m at *
 have kn := K2.n
 generalize hU : G2.n = U at *
 refine R_heap (fun H => RS h0 N b false L (part w v m 0 0 0 0 []) H ∧ H.get U = some (.cells [.bool false, .bool false, .bool false, .bool false, .bool false] false) ∧ U < H.n) ⟨((K2.store _).push _).set (by omega) _, Hp.get_set_self _ _ _, by simp; omega⟩ (fun H3 hH => ?_)
 obtain ⟨I3, u3, nU⟩ := hH
 clear K2
 have p3 := I3.part
 have cu := ruses_spec (orc := orc) (ho _ (by simp)) (ho _ (by simp)) v m
 obtain ⟨j0, j1, j2, j3, j4⟩ : (∀ hh : AH, iaddrAV 5 1 (.ptr (some (U, 0))) (.int .i64 0) hh = some (.ptr (some (U, 0)), hh)) ∧ (∀ hh : AH, iaddrAV 5 1 (.ptr (some (U, 0))) (.int .i64 1) hh = some (.ptr (some (U, 0 + 1)), hh)) ∧ (∀ hh : AH, iaddrAV 5 1 (.ptr (some (U, 0))) (.int .i64 2) hh = some (.ptr (some (U, 0 + 2)), hh)) ∧ (∀ hh : AH, iaddrAV 5 1 (.ptr (some (U, 0))) (.int .i64 3) hh = some (.ptr (some (U, 0 + 3)), hh)) ∧ (∀ hh : AH, iaddrAV 5 1 (.ptr (some (U, 0))) (.int .i64 4) hh = some (.ptr (some (U, 0 + 4)), hh)) := ⟨fun hh => (iaddrA5 U 0 hh).1, fun hh => (iaddrA5 U 0 hh).2.1, fun hh => (iaddrA5 U 0 hh).2.2.1, fun hh => (iaddrA5 U 0 hh).2.2.2.1, fun hh => (iaddrA5 U 0 hh).2.2.2.2⟩
 (have fct := Fj @p3 (Fj @part_1 (Fj @part_2 (Fj @cu (Fj @op_iaddrA (Fj @j0 (Fj @j1 (Fj @j2 (Fj @j3 (Fj @j4 (Fj @u3 (Fj @Fs.over.eq_1 @Nat.zero_add))))))))))); refine GO ?_; clear fct)
 refine CodeK_loop (RdI h0 N b U false L cap w v m) 5 ?_ ?_
 · refine ⟨rfl, rfl, rfl, rfl, rfl, Hp.get_set_self _ _ _, ⟨by omega, by simpa using nU⟩, 0, 3, rfl, by omega, rfl, rfl, by omega, rfl, ?_⟩
   exact ((((I3.set (by omega) _).set (by omega) _).set (by omega) _).set (by omega) _).set (by omega) _
 clear p3 u3 nU I3 kn hU
 intro n tm H I
 obtain ⟨k, at', hn, hk, e6, e5, hat, hd, IR⟩ := I.st
 have el := I.len
 have e0 := I.t0
 have e2 := I.t2
 have e3 := I.t3
 have e4 := I.t4
 have us := I.us
 have un := I.un
 clear I
 have gr := IR.gr
 have pp := IR.part
 have rr := IR.res
 have rw' := IR.row
 have lo := IR.low
 have nn := IR.n
 have yN : (N + 1 = N) = False := by simp
 have sE := stP_end w v m (L.drop 3) hk
 by_cases hlt : at' < L.length
 case neg =>
  have hnil : stR v m (L.drop 3) k = [] := by rw [← hd, List.drop_eq_nil_of_le (by omega)]
  rw [← sE hnil]
  have l2 : decide ((at' : Int) < (L.length : Int)) = false := by rw [decide_eq_false_iff_not]; omega
  have hP : ∃ a b c d e f g i, stP w v m (L.drop 3) k = part a b c d e f g i := by
   have : k = 0 ∨ k = 1 ∨ k = 2 ∨ k = 3 ∨ k = 4 ∨ k = 5 := by omega
   rcases this with rfl | rfl | rfl | rfl | rfl | rfl <;> exact ⟨_, _, _, _, _, _, _, _, rfl⟩
  obtain ⟨pa, pb, pc, pd, pe, pf, pg, ph, hP⟩ := hP
  rw [hP] at pp ⊢
  unfold zeroP at rr
  cases l3 : decide ((k : Int) < 5) with
  | true =>
    (have fct := Fj @el (Fj @e0 (Fj @e2 (Fj @e3 (Fj @e4 (Fj @e5 (Fj @e6 (Fj @l2 (Fj @l3 (Fj @pp (Fj @rr (Fj @part_len (Fj @part_take (Fj @part_one (Fj @over_8 @yN)))))))))))))); refine GO ?_; clear fct)
    (have fct := Fj @el (Fj @e2 (Fj @part_take (Fj @part_len (Fj @part_under (Fj @over_8 (Fj @yN @rr)))))); refine A_end ?_; clear fct; try exact trivial)
    all_goals first | exact lo | exact ⟨lo, rfl⟩ | omega
  | false =>
    (have fct := Fj @el (Fj @e0 (Fj @e2 (Fj @e3 (Fj @e4 (Fj @e5 (Fj @e6 (Fj @l3 (Fj @pp (Fj @rr (Fj @part_len (Fj @part_take (Fj @part_one (Fj @over_8 @yN))))))))))))); refine GO ?_; clear fct)
    (have fct := Fj @el (Fj @e2 (Fj @part_take (Fj @part_len (Fj @part_under (Fj @over_8 (Fj @yN @rr)))))); refine A_end ?_; clear fct; try exact trivial)
    all_goals first | exact lo | exact ⟨lo, rfl⟩ | omega
 case pos =>
 have l2 : decide ((at' : Int) < (L.length : Int)) = true := by rw [decide_eq_true_eq]; omega
 obtain ⟨x, hx⟩ : ∃ x, L[at']? = some x := ⟨_, List.getElem?_eq_getElem hlt⟩
 have hdx : L.drop at' = x :: L.drop (at' + 1) := by rw [List.drop_eq_getElem_cons hlt, (List.getElem?_eq_some_iff.1 hx).2]
 have hm : (L.map AV.str)[at']? = some (.str x) := by rw [List.getElem?_map, hx]; rfl
 have ia := fun (hh : AH) => iaddrV_nat (h := hh) (esz := 1) (b := b) (o := 0) (c := cap) (k := .i64) hlt
 have wa := wrap_small (n := (at' : Int) + 1) (by omega) (by omega)
 obtain ⟨j0, j1, j2, j3, j4⟩ : (∀ hh : AH, iaddrAV 5 1 (.ptr (some (U, 0))) (.int .i64 0) hh = some (.ptr (some (U, 0)), hh)) ∧ (∀ hh : AH, iaddrAV 5 1 (.ptr (some (U, 0))) (.int .i64 1) hh = some (.ptr (some (U, 0 + 1)), hh)) ∧ (∀ hh : AH, iaddrAV 5 1 (.ptr (some (U, 0))) (.int .i64 2) hh = some (.ptr (some (U, 0 + 2)), hh)) ∧ (∀ hh : AH, iaddrAV 5 1 (.ptr (some (U, 0))) (.int .i64 3) hh = some (.ptr (some (U, 0 + 3)), hh)) ∧ (∀ hh : AH, iaddrAV 5 1 (.ptr (some (U, 0))) (.int .i64 4) hh = some (.ptr (some (U, 0 + 4)), hh)) := ⟨fun hh => (iaddrA5 U 0 hh).1, fun hh => (iaddrA5 U 0 hh).2.1, fun hh => (iaddrA5 U 0 hh).2.2.1, fun hh => (iaddrA5 U 0 hh).2.2.2.1, fun hh => (iaddrA5 U 0 hh).2.2.2.2⟩
 have cN := number_spec (orc := orc) (ho _ (by simp)) x
 have cS := rsuitOf_spec (orc := orc) (ho _ (by simp)) hT x gr
 have cT := rtraitOf_spec (orc := orc) (ho _ (by simp)) (ho _ (by simp)) x
 have mk : IntKind.wrap .u8 ((numF x).tmod 200) = markR (numF x) := rfl
 rw [hd] at hdx
 have hk5 : k = 0 ∨ k = 1 ∨ k = 2 ∨ k = 3 ∨ k = 4 ∨ k = 5 := by omega
 have hd' := hd
 clear hk hd
 rcases hk5 with rfl | rfl | rfl | rfl | rfl | rfl
 · have e6 : tm.getD 6 AV.undef = .int .i64 0 := e6
   have wk : IntKind.wrap .i64 ((0 : Int) + 1) = 1 := by decide
   have hdx : L.drop 3 = x :: L.drop (at' + 1) := hdx
   have pp : H.get (N + 1) = some (.cells (part w v m 0 0 0 0 []) false) := pp
   cases hu : uC v with
   | false =>
     have eR : stR v m (L.drop 3) 1 = stR v m (L.drop 3) 0 := by
      show q1 v m (L.drop 3) = L.drop 3
      unfold q1; rw [hu]; rfl
     have eP : stP w v m (L.drop 3) 1 = stP w v m (L.drop 3) 0 := by
      have : xC v (L.drop 3) = 0 := by
       unfold xC
       rw [hu]
       simp only [nextW, Bool.false_eq_true, if_false, numF_nil]
      simp only [stP, this]
     (have fct := Fj @el (Fj @e0 (Fj @e2 (Fj @e3 (Fj @e4 (Fj @e5 (Fj @e6 (Fj @l2 (Fj @hu (Fj @cN (Fj @cS (Fj @cT (Fj @mk (Fj @wa (Fj @wk (Fj @op_iaddrA (Fj @j0 (Fj @j1 (Fj @j2 (Fj @j3 (Fj @j4 (Fj @us (Fj @ia (Fj @hm (Fj @rw' (Fj @pp (Fj @Nat.zero_add (Fj @Nat.mul_one @part_len))))))))))))))))))))))))))); refine GO ?_; clear fct)
     refine ⟨5 - 1, by omega, by simp only [List.length_set, el], by simp only [fsTm, Nat.reduceBEq, Nat.reduceLT, el, e0], by simp only [fsTm, Nat.reduceBEq, Nat.reduceLT, el, e2], by simp only [fsTm, Nat.reduceBEq, Nat.reduceLT, el, e3], by simp only [fsTm, Nat.reduceBEq, Nat.reduceLT, el, e4], us, un, 1, at', rfl, by omega, by simp only [fsTm, Nat.reduceBEq, Nat.reduceLT, el]; rfl, by simp only [fsTm, Nat.reduceBEq, Nat.reduceLT, el, e5], hat, ?_, ?_⟩
     · rw [eR]; exact hd'
     · rw [eP]; exact IR
   | true =>
     have eR : stR v m (L.drop 3) 1 = L.drop (at' + 1) := by
      show q1 v m (L.drop 3) = _
      unfold q1; rw [hu, hdx]; rfl
     have eP : stP w v m (L.drop 3) 1 = part w v m (numF x) 0 0 0 [] := by
      have : xC v (L.drop 3) = numF x := by
       unfold xC
       rw [hu, hdx]; rfl
      simp only [stP, this]
     (have fct := Fj @el (Fj @e0 (Fj @e2 (Fj @e3 (Fj @e4 (Fj @e5 (Fj @e6 (Fj @l2 (Fj @hu (Fj @cN (Fj @cS (Fj @cT (Fj @mk (Fj @wa (Fj @wk (Fj @op_iaddrA (Fj @j0 (Fj @j1 (Fj @j2 (Fj @j3 (Fj @j4 (Fj @us (Fj @ia (Fj @hm (Fj @rw' (Fj @pp (Fj @Nat.zero_add (Fj @Nat.mul_one (Fj @part_len @over_3)))))))))))))))))))))))))))); refine GO ?_; clear fct)
     refine ⟨5 - 1, by omega, by simp only [List.length_set, el], by simp only [fsTm, Nat.reduceBEq, Nat.reduceLT, el, e0], by simp only [fsTm, Nat.reduceBEq, Nat.reduceLT, el, e2], by simp only [fsTm, Nat.reduceBEq, Nat.reduceLT, el, e3], by simp only [fsTm, Nat.reduceBEq, Nat.reduceLT, el, e4], by rw [Hp.get_set_ne _ _ _ _ (by omega)]; exact us, by simpa using un, 1, at' + 1, rfl, by omega, by simp only [fsTm, Nat.reduceBEq, Nat.reduceLT, el]; rfl, by simp only [fsTm, Nat.reduceBEq, Nat.reduceLT, el]; rfl, by omega, eR.symm, ?_⟩
     rw [eP]; exact IR.store _
 · have e6 : tm.getD 6 AV.undef = .int .i64 1 := e6
   have wk : IntKind.wrap .i64 ((1 : Int) + 1) = 2 := by decide
   have hdx : q1 v m (L.drop 3) = x :: L.drop (at' + 1) := hdx
   have pp : H.get (N + 1) = some (.cells (part w v m (xC v (L.drop 3)) 0 0 0 []) false) := pp
   cases hu : uS v m with
   | false =>
     have eR : stR v m (L.drop 3) 2 = stR v m (L.drop 3) 1 := by
      show q2 v m (L.drop 3) = q1 v m (L.drop 3)
      unfold q2; rw [hu]; rfl
     have eP : stP w v m (L.drop 3) 2 = stP w v m (L.drop 3) 1 := by
      have : xS v m (L.drop 3) = 0 := by
       unfold xS
       rw [hu]
       simp only [nextW, Bool.false_eq_true, if_false, suitR_nil]
      simp only [stP, this]
     (have fct := Fj @el (Fj @e0 (Fj @e2 (Fj @e3 (Fj @e4 (Fj @e5 (Fj @e6 (Fj @l2 (Fj @hu (Fj @cN (Fj @cS (Fj @cT (Fj @mk (Fj @wa (Fj @wk (Fj @op_iaddrA (Fj @j0 (Fj @j1 (Fj @j2 (Fj @j3 (Fj @j4 (Fj @us (Fj @ia (Fj @hm (Fj @rw' (Fj @pp (Fj @Nat.zero_add (Fj @Nat.mul_one @part_len))))))))))))))))))))))))))); refine GO ?_; clear fct)
     refine ⟨5 - 2, by omega, by simp only [List.length_set, el], by simp only [fsTm, Nat.reduceBEq, Nat.reduceLT, el, e0], by simp only [fsTm, Nat.reduceBEq, Nat.reduceLT, el, e2], by simp only [fsTm, Nat.reduceBEq, Nat.reduceLT, el, e3], by simp only [fsTm, Nat.reduceBEq, Nat.reduceLT, el, e4], us, un, 2, at', rfl, by omega, by simp only [fsTm, Nat.reduceBEq, Nat.reduceLT, el]; rfl, by simp only [fsTm, Nat.reduceBEq, Nat.reduceLT, el, e5], hat, ?_, ?_⟩
     · rw [eR]; exact hd'
     · rw [eP]; exact IR
   | true =>
     have eR : stR v m (L.drop 3) 2 = L.drop (at' + 1) := by
      show q2 v m (L.drop 3) = _
      unfold q2; rw [hu, hdx]; rfl
     have eP : stP w v m (L.drop 3) 2 = part w v m (xC v (L.drop 3)) (suitR x).1 0 0 [] := by
      have : xS v m (L.drop 3) = (suitR x).1 := by
       unfold xS
       rw [hu, hdx]; rfl
      simp only [stP, this]
     (have fct := Fj @el (Fj @e0 (Fj @e2 (Fj @e3 (Fj @e4 (Fj @e5 (Fj @e6 (Fj @l2 (Fj @hu (Fj @cN (Fj @cS (Fj @cT (Fj @mk (Fj @wa (Fj @wk (Fj @op_iaddrA (Fj @j0 (Fj @j1 (Fj @j2 (Fj @j3 (Fj @j4 (Fj @us (Fj @ia (Fj @hm (Fj @rw' (Fj @pp (Fj @Nat.zero_add (Fj @Nat.mul_one (Fj @part_len @over_4)))))))))))))))))))))))))))); refine GO ?_; clear fct)
     refine ⟨5 - 2, by omega, by simp only [List.length_set, el], by simp only [fsTm, Nat.reduceBEq, Nat.reduceLT, el, e0], by simp only [fsTm, Nat.reduceBEq, Nat.reduceLT, el, e2], by simp only [fsTm, Nat.reduceBEq, Nat.reduceLT, el, e3], by simp only [fsTm, Nat.reduceBEq, Nat.reduceLT, el, e4], by rw [Hp.get_set_ne _ _ _ _ (by omega)]; exact us, by simpa using un, 2, at' + 1, rfl, by omega, by simp only [fsTm, Nat.reduceBEq, Nat.reduceLT, el]; rfl, by simp only [fsTm, Nat.reduceBEq, Nat.reduceLT, el]; rfl, by omega, eR.symm, ?_⟩
     rw [eP]; exact IR.store _
 · have e6 : tm.getD 6 AV.undef = .int .i64 2 := e6
   have wk : IntKind.wrap .i64 ((2 : Int) + 1) = 3 := by decide
   have hdx : q2 v m (L.drop 3) = x :: L.drop (at' + 1) := hdx
   have pp : H.get (N + 1) = some (.cells (part w v m (xC v (L.drop 3)) (xS v m (L.drop 3)) 0 0 []) false) := pp
   cases hu : uT v m with
   | false =>
     have eR : stR v m (L.drop 3) 3 = stR v m (L.drop 3) 2 := by
      show q3 v m (L.drop 3) = q2 v m (L.drop 3)
      unfold q3; rw [hu]; rfl
     have eP : stP w v m (L.drop 3) 3 = stP w v m (L.drop 3) 2 := by
      have : xT v m (L.drop 3) = 0 := by
       unfold xT
       rw [hu]
       simp only [nextW, Bool.false_eq_true, if_false, trait_none]
      simp only [stP, this]
     (have fct := Fj @el (Fj @e0 (Fj @e2 (Fj @e3 (Fj @e4 (Fj @e5 (Fj @e6 (Fj @l2 (Fj @hu (Fj @cN (Fj @cS (Fj @cT (Fj @mk (Fj @wa (Fj @wk (Fj @op_iaddrA (Fj @j0 (Fj @j1 (Fj @j2 (Fj @j3 (Fj @j4 (Fj @us (Fj @ia (Fj @hm (Fj @rw' (Fj @pp (Fj @Nat.zero_add (Fj @Nat.mul_one @part_len))))))))))))))))))))))))))); refine GO ?_; clear fct)
     refine ⟨5 - 3, by omega, by simp only [List.length_set, el], by simp only [fsTm, Nat.reduceBEq, Nat.reduceLT, el, e0], by simp only [fsTm, Nat.reduceBEq, Nat.reduceLT, el, e2], by simp only [fsTm, Nat.reduceBEq, Nat.reduceLT, el, e3], by simp only [fsTm, Nat.reduceBEq, Nat.reduceLT, el, e4], us, un, 3, at', rfl, by omega, by simp only [fsTm, Nat.reduceBEq, Nat.reduceLT, el]; rfl, by simp only [fsTm, Nat.reduceBEq, Nat.reduceLT, el, e5], hat, ?_, ?_⟩
     · rw [eR]; exact hd'
     · rw [eP]; exact IR
   | true =>
     have eR : stR v m (L.drop 3) 3 = L.drop (at' + 1) := by
      show q3 v m (L.drop 3) = _
      unfold q3; rw [hu, hdx]; rfl
     have eP : stP w v m (L.drop 3) 3 = part w v m (xC v (L.drop 3)) (xS v m (L.drop 3)) (traitOf x).1 0 [] := by
      have : xT v m (L.drop 3) = (traitOf x).1 := by
       unfold xT
       rw [hu, hdx]; rfl
      simp only [stP, this]
     (have fct := Fj @el (Fj @e0 (Fj @e2 (Fj @e3 (Fj @e4 (Fj @e5 (Fj @e6 (Fj @l2 (Fj @hu (Fj @cN (Fj @cS (Fj @cT (Fj @mk (Fj @wa (Fj @wk (Fj @op_iaddrA (Fj @j0 (Fj @j1 (Fj @j2 (Fj @j3 (Fj @j4 (Fj @us (Fj @ia (Fj @hm (Fj @rw' (Fj @pp (Fj @Nat.zero_add (Fj @Nat.mul_one (Fj @part_len @over_5)))))))))))))))))))))))))))); refine GO ?_; clear fct)
     refine ⟨5 - 3, by omega, by simp only [List.length_set, el], by simp only [fsTm, Nat.reduceBEq, Nat.reduceLT, el, e0], by simp only [fsTm, Nat.reduceBEq, Nat.reduceLT, el, e2], by simp only [fsTm, Nat.reduceBEq, Nat.reduceLT, el, e3], by simp only [fsTm, Nat.reduceBEq, Nat.reduceLT, el, e4], by rw [Hp.get_set_ne _ _ _ _ (by omega)]; exact us, by simpa using un, 3, at' + 1, rfl, by omega, by simp only [fsTm, Nat.reduceBEq, Nat.reduceLT, el]; rfl, by simp only [fsTm, Nat.reduceBEq, Nat.reduceLT, el]; rfl, by omega, eR.symm, ?_⟩
     rw [eP]; exact IR.store _
 · have e6 : tm.getD 6 AV.undef = .int .i64 3 := e6
   have wk : IntKind.wrap .i64 ((3 : Int) + 1) = 4 := by decide
   have hdx : q3 v m (L.drop 3) = x :: L.drop (at' + 1) := hdx
   have pp : H.get (N + 1) = some (.cells (part w v m (xC v (L.drop 3)) (xS v m (L.drop 3)) (xT v m (L.drop 3)) 0 []) false) := pp
   cases hu : uM v with
   | false =>
     have eR : stR v m (L.drop 3) 4 = stR v m (L.drop 3) 3 := by
      show q4 v m (L.drop 3) = q3 v m (L.drop 3)
      unfold q4; rw [hu]; rfl
     have eP : stP w v m (L.drop 3) 4 = stP w v m (L.drop 3) 3 := by
      have : xK v m (L.drop 3) = 0 := by
       unfold xK
       rw [hu]
       simp only [nextW, Bool.false_eq_true, if_false, numF_nil, markR_zero]
      simp only [stP, this]
     (have fct := Fj @el (Fj @e0 (Fj @e2 (Fj @e3 (Fj @e4 (Fj @e5 (Fj @e6 (Fj @l2 (Fj @hu (Fj @cN (Fj @cS (Fj @cT (Fj @mk (Fj @wa (Fj @wk (Fj @op_iaddrA (Fj @j0 (Fj @j1 (Fj @j2 (Fj @j3 (Fj @j4 (Fj @us (Fj @ia (Fj @hm (Fj @rw' (Fj @pp (Fj @Nat.zero_add (Fj @Nat.mul_one @part_len))))))))))))))))))))))))))); refine GO ?_; clear fct)
     refine ⟨5 - 4, by omega, by simp only [List.length_set, el], by simp only [fsTm, Nat.reduceBEq, Nat.reduceLT, el, e0], by simp only [fsTm, Nat.reduceBEq, Nat.reduceLT, el, e2], by simp only [fsTm, Nat.reduceBEq, Nat.reduceLT, el, e3], by simp only [fsTm, Nat.reduceBEq, Nat.reduceLT, el, e4], us, un, 4, at', rfl, by omega, by simp only [fsTm, Nat.reduceBEq, Nat.reduceLT, el]; rfl, by simp only [fsTm, Nat.reduceBEq, Nat.reduceLT, el, e5], hat, ?_, ?_⟩
     · rw [eR]; exact hd'
     · rw [eP]; exact IR
   | true =>
     have eR : stR v m (L.drop 3) 4 = L.drop (at' + 1) := by
      show q4 v m (L.drop 3) = _
      unfold q4; rw [hu, hdx]; rfl
     have eP : stP w v m (L.drop 3) 4 = part w v m (xC v (L.drop 3)) (xS v m (L.drop 3)) (xT v m (L.drop 3)) (markR (numF x)) [] := by
      have : xK v m (L.drop 3) = markR (numF x) := by
       unfold xK
       rw [hu, hdx]; rfl
      simp only [stP, this]
     (have fct := Fj @el (Fj @e0 (Fj @e2 (Fj @e3 (Fj @e4 (Fj @e5 (Fj @e6 (Fj @l2 (Fj @hu (Fj @cN (Fj @cS (Fj @cT (Fj @mk (Fj @wa (Fj @wk (Fj @op_iaddrA (Fj @j0 (Fj @j1 (Fj @j2 (Fj @j3 (Fj @j4 (Fj @us (Fj @ia (Fj @hm (Fj @rw' (Fj @pp (Fj @Nat.zero_add (Fj @Nat.mul_one (Fj @part_len @over_6)))))))))))))))))))))))))))); refine GO ?_; clear fct)
     refine ⟨5 - 4, by omega, by simp only [List.length_set, el], by simp only [fsTm, Nat.reduceBEq, Nat.reduceLT, el, e0], by simp only [fsTm, Nat.reduceBEq, Nat.reduceLT, el, e2], by simp only [fsTm, Nat.reduceBEq, Nat.reduceLT, el, e3], by simp only [fsTm, Nat.reduceBEq, Nat.reduceLT, el, e4], by rw [Hp.get_set_ne _ _ _ _ (by omega)]; exact us, by simpa using un, 4, at' + 1, rfl, by omega, by simp only [fsTm, Nat.reduceBEq, Nat.reduceLT, el]; rfl, by simp only [fsTm, Nat.reduceBEq, Nat.reduceLT, el]; rfl, by omega, eR.symm, ?_⟩
     rw [eP]; exact IR.store _
 · have e6 : tm.getD 6 AV.undef = .int .i64 4 := e6
   have wk : IntKind.wrap .i64 ((4 : Int) + 1) = 5 := by decide
   have hdx : q4 v m (L.drop 3) = x :: L.drop (at' + 1) := hdx
   have pp : H.get (N + 1) = some (.cells (part w v m (xC v (L.drop 3)) (xS v m (L.drop 3)) (xT v m (L.drop 3)) (xK v m (L.drop 3)) []) false) := pp
   cases hu : uN v with
   | false =>
     have eR : stR v m (L.drop 3) 5 = stR v m (L.drop 3) 4 := by
      show nextR (uN v) (q4 v m (L.drop 3)) = q4 v m (L.drop 3)
      rw [hu]; rfl
     have eP : stP w v m (L.drop 3) 5 = stP w v m (L.drop 3) 4 := by
      have : xN v m (L.drop 3) = [] := by
       unfold xN
       rw [hu]
       simp only [nextW, Bool.false_eq_true, if_false]
      simp only [stP, this]
     (have fct := Fj @el (Fj @e0 (Fj @e2 (Fj @e3 (Fj @e4 (Fj @e5 (Fj @e6 (Fj @l2 (Fj @hu (Fj @cN (Fj @cS (Fj @cT (Fj @mk (Fj @wa (Fj @wk (Fj @op_iaddrA (Fj @j0 (Fj @j1 (Fj @j2 (Fj @j3 (Fj @j4 (Fj @us (Fj @ia (Fj @hm (Fj @rw' (Fj @pp (Fj @Nat.zero_add (Fj @Nat.mul_one @part_len))))))))))))))))))))))))))); refine GO ?_; clear fct)
     refine ⟨5 - 5, by omega, by simp only [List.length_set, el], by simp only [fsTm, Nat.reduceBEq, Nat.reduceLT, el, e0], by simp only [fsTm, Nat.reduceBEq, Nat.reduceLT, el, e2], by simp only [fsTm, Nat.reduceBEq, Nat.reduceLT, el, e3], by simp only [fsTm, Nat.reduceBEq, Nat.reduceLT, el, e4], us, un, 5, at', rfl, by omega, by simp only [fsTm, Nat.reduceBEq, Nat.reduceLT, el]; rfl, by simp only [fsTm, Nat.reduceBEq, Nat.reduceLT, el, e5], hat, ?_, ?_⟩
     · rw [eR]; exact hd'
     · rw [eP]; exact IR
   | true =>
     have eR : stR v m (L.drop 3) 5 = L.drop (at' + 1) := by
      show nextR (uN v) (q4 v m (L.drop 3)) = _
      rw [hu, hdx]; rfl
     have eP : stP w v m (L.drop 3) 5 = part w v m (xC v (L.drop 3)) (xS v m (L.drop 3)) (xT v m (L.drop 3)) (xK v m (L.drop 3)) x := by
      have : xN v m (L.drop 3) = x := by
       unfold xN
       rw [hu, hdx]; rfl
      simp only [stP, this]
     (have fct := Fj @el (Fj @e0 (Fj @e2 (Fj @e3 (Fj @e4 (Fj @e5 (Fj @e6 (Fj @l2 (Fj @hu (Fj @cN (Fj @cS (Fj @cT (Fj @mk (Fj @wa (Fj @wk (Fj @op_iaddrA (Fj @j0 (Fj @j1 (Fj @j2 (Fj @j3 (Fj @j4 (Fj @us (Fj @ia (Fj @hm (Fj @rw' (Fj @pp (Fj @Nat.zero_add (Fj @Nat.mul_one (Fj @part_len @over_7)))))))))))))))))))))))))))); refine GO ?_; clear fct)
     refine ⟨5 - 5, by omega, by simp only [List.length_set, el], by simp only [fsTm, Nat.reduceBEq, Nat.reduceLT, el, e0], by simp only [fsTm, Nat.reduceBEq, Nat.reduceLT, el, e2], by simp only [fsTm, Nat.reduceBEq, Nat.reduceLT, el, e3], by simp only [fsTm, Nat.reduceBEq, Nat.reduceLT, el, e4], by rw [Hp.get_set_ne _ _ _ _ (by omega)]; exact us, by simpa using un, 5, at' + 1, rfl, by omega, by simp only [fsTm, Nat.reduceBEq, Nat.reduceLT, el]; rfl, by simp only [fsTm, Nat.reduceBEq, Nat.reduceLT, el]; rfl, by omega, eR.symm, ?_⟩
     rw [eP]; exact IR.store _
 · have e6 : tm.getD 6 AV.undef = .int .i64 5 := e6
   have pp : H.get (N + 1) = some (.cells (part w v m (xC v (L.drop 3)) (xS v m (L.drop 3)) (xT v m (L.drop 3)) (xK v m (L.drop 3)) (xN v m (L.drop 3))) false) := pp
   show CodeK _ (DoneK _ h (AV.agg (part w v m (xC v (L.drop 3)) (xS v m (L.drop 3)) (xT v m (L.drop 3)) (xK v m (L.drop 3)) (xN v m (L.drop 3))))) _ _ _ _
   unfold zeroP at rr
   (have fct := Fj @el (Fj @e0 (Fj @e2 (Fj @e3 (Fj @e4 (Fj @e5 (Fj @e6 (Fj @l2 (Fj @pp (Fj @rr (Fj @part_len (Fj @part_take (Fj @part_one (Fj @over_8 @yN))))))))))))); refine GO ?_; clear fct)
   (have fct := Fj @el (Fj @e2 (Fj @part_take (Fj @part_len (Fj @part_under (Fj @over_8 (Fj @yN @rr)))))); refine A_end ?_; clear fct; try exact trivial)
   all_goals first | exact lo | exact ⟨lo, rfl⟩ | omega
end Go.Proofs.Ef
