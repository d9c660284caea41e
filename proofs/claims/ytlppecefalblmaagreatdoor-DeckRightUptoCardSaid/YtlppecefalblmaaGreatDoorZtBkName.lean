/- Names of marks: the program's check goes from rune to rune, the reference's from byte to byte. -/
import Derived.Test.YtlppecefalblmaaGreatDoorFz05
import Derived.Laws.RangeString
import Derived.Laws.RangeAny
import Derived.Test.YtlppecefalblmaaGreatDoorZtCdRef
namespace Go.Proofs.Cards
set_option maxRecDepth 100000
set_option maxHeartbeats 32000000
open Go Go.Fs
set_option linter.unusedSimpArgs false
set_option linter.unusedVariables false
variable {orc : Orc}
def cf125 : CF := ⟨33, [(.tmp 2)], (.seq (.region [Zo 2 (.mv (.c (.bool false)))]) (.seq (.seq (.region [Zm 5 0, Zo 6 (.lenS (.t 5)), Zb 7 .eql (.t 6) (.c (.int .i64 0)), Zm 8 7, Zg 9 (.mv (.t 0)) 8 false, Zg 10 (.lenS (.t 9)) 8 false, Zg 11 (.bin .gtr .other (.t 10) (.c (.int .i64 20))) 8 false, Zo 12 (.pick (.t 8) (.c (.bool true)) (.t 11)), Zm 13 12, Zg 14 (.mv (.t 0)) 13 false, Zg 15 (.idxS (.t 14) (.c (.int .i64 0))) 13 false, Zg 16 (.bin .eql .other (.t 15) (.c (.int .u8 45))) 13 false, Zo 17 (.pick (.t 13) (.c (.bool true)) (.t 16))]) (.cond (.t 17) (.seq (.region [Zo 2 (.mv (.c (.bool false)))]) .ret) .skip)) (.seq (.seq (.region [Zm 18 0, Zo 19 (.iterS (.t 18))]) (.block 0 (.loop (.seq (.region [Zo 20 (.nextS (.t 19)), Ze 21 0 20]) (.seq (.cond (.t 21) .skip (.exit 0)) (.block 1 (.seq (.region [Ze 22 2 20, Zm 4 22]) (.seq (.region [Zm 23 4, Zb 24 .neq (.t 23) (.c (.int .i32 45)), Zm 25 24, Zg 26 (.mv (.t 4)) 25 true, Zg 27 (.bin .lss .other (.t 26) (.c (.int .i32 97))) 25 true, Zg 28 (.mv (.t 27)) 25 true, Zg 29 (.mv (.t 4)) 28 false, Zg 30 (.bin .gtr .other (.t 29) (.c (.int .i32 122))) 28 false, Zg 31 (.pick (.t 28) (.c (.bool true)) (.t 30)) 25 true, Zo 32 (.pick (.t 25) (.t 31) (.c (.bool false)))]) (.cond (.t 32) (.seq (.region [Zo 2 (.mv (.c (.bool false)))]) .ret) .skip))))))))) (.seq (.region [Zo 2 (.mv (.c (.bool true)))]) .ret))))⟩
def cf124 : CF := ⟨9, [(.tmp 2)], (.seq (.region [Zo 2 (.mv (.c (.bool false)))]) (.seq (.region [Zm 3 0, Zb 4 .geq (.t 3) (.c (.int .i64 (-9))), Zm 5 4, Zg 6 (.mv (.t 0)) 5 true, Zg 7 (.bin .leq .other (.t 6) (.c (.int .i64 9))) 5 true, Zo 8 (.pick (.t 5) (.t 7) (.c (.bool false))), Zm 2 8]) .ret))⟩
def cf126 : CF := ⟨44, [(.tmp 2)], (.seq (.region [Zo 2 (.mv (.c (.bool false)))]) (.seq (.seq (.region [Zm 4 0, Zo 5 (.lenS (.t 4)), Zb 6 .lss (.t 5) (.c (.int .i64 1)), Zm 7 6, Zg 8 (.mv (.t 0)) 7 false, Zg 9 (.lenS (.t 8)) 7 false, Zg 10 (.bin .gtr .other (.t 9) (.c (.int .i64 20))) 7 false, Zo 11 (.pick (.t 7) (.c (.bool true)) (.t 10)), Zm 12 11, Zg 13 (.mv (.t 0)) 12 false, Zg 14 (.idxS (.t 13) (.c (.int .i64 0))) 12 false, Zg 15 (.bin .lss .other (.t 14) (.c (.int .u8 97))) 12 false, Zo 16 (.pick (.t 12) (.c (.bool true)) (.t 15)), Zm 17 16, Zg 18 (.mv (.t 0)) 17 false, Zg 19 (.idxS (.t 18) (.c (.int .i64 0))) 17 false, Zg 20 (.bin .gtr .other (.t 19) (.c (.int .u8 122))) 17 false, Zo 21 (.pick (.t 17) (.c (.bool true)) (.t 20))]) (.cond (.t 21) (.seq (.region [Zo 2 (.mv (.c (.bool false)))]) .ret) .skip)) (.seq (.seq (.region [Zo 3 (.mv (.c (.int .i64 0)))]) (.block 0 (.loop (.seq (.seq (.region [Zm 22 3, Zm 23 0, Zo 24 (.lenS (.t 23)), Zb 25 .lss (.t 22) (.t 24)]) (.cond (.t 25) .skip (.exit 0))) (.seq (.block 1 (.seq (.region [Zm 28 0, Zm 29 3, Zo 30 (.idxS (.t 28) (.t 29)), Zb 31 .lss (.t 30) (.c (.int .u8 97)), Zm 32 31, Zg 33 (.mv (.t 0)) 32 false, Zg 34 (.mv (.t 3)) 32 false, Zg 35 (.idxS (.t 33) (.t 34)) 32 false, Zg 36 (.bin .gtr .other (.t 35) (.c (.int .u8 122))) 32 false, Zo 37 (.pick (.t 32) (.c (.bool true)) (.t 36)), Zm 38 37, Zg 39 (.mv (.t 0)) 38 true, Zg 40 (.mv (.t 3)) 38 true, Zg 41 (.idxS (.t 39) (.t 40)) 38 true, Zg 42 (.bin .neq .other (.t 41) (.c (.int .u8 45))) 38 true, Zo 43 (.pick (.t 38) (.t 42) (.c (.bool false)))]) (.cond (.t 43) (.seq (.region [Zo 2 (.mv (.c (.bool false)))]) .ret) .skip))) (.region [Zm 26 3, Zb 27 .add (.t 26) (.c (.int .i64 1)), Zm 3 27])))))) (.seq (.region [Zo 2 (.mv (.c (.bool true)))]) .ret))))⟩
theorem tbl125 : tbl Tryz.prog 125 = some cf125 := by kernel_rfl
theorem tbl124 : tbl Tryz.prog 124 = some cf124 := by kernel_rfl
theorem tbl126 : tbl Tryz.prog 126 = some cf126 := by kernel_rfl
theorem dec_low {s : List UInt8} {i : Nat} {x : UInt8} (hx : s[i]? = some x) (ha : x.toNat < 128) : Utf8.decode ⟨s.toArray⟩ i = (x.toNat, 1) := by
 obtain ⟨hi, e⟩ := List.getElem?_eq_some_iff.1 hx
 have h : i < (⟨s.toArray⟩ : ByteArray).size := by simpa [ByteArray.size] using hi
 have e2 : (⟨s.toArray⟩ : ByteArray)[i]'h = x := by rw [← e]; rfl
 rw [decode_ascii _ _ h (by rw [e2]; exact ha), e2]
theorem dec_high {s : List UInt8} {i : Nat} {x : UInt8} (hx : s[i]? = some x) (ha : 128 ≤ x.toNat) : 128 ≤ (Utf8.decode ⟨s.toArray⟩ i).1 ∧ 1 ≤ (Utf8.decode ⟨s.toArray⟩ i).2 := by
 obtain ⟨hi, e⟩ := List.getElem?_eq_some_iff.1 hx
 have h : i < (⟨s.toArray⟩ : ByteArray).size := by simpa [ByteArray.size] using hi
 have e2 : (⟨s.toArray⟩ : ByteArray)[i]'h = x := by rw [← e]; rfl
 exact decode_high _ _ h (by rw [e2]; exact ha)
theorem op_iterS {call : Rec} {tm : List AV} {h : AH} {s : List UInt8} (x : CA) (hx : x.ev tm = .str s) : runOp call (.iterS x) tm h = some (.ptr (some (h.n, 0)), h.push (.iter s 0)) := by
 simp only [runOp, CO.quiet, Bool.false_eq_true, if_false, effRun, hx]
theorem op_next_lt {call : Rec} {tm : List AV} {h : AH} {s : List UInt8} {b pos : Nat} (x : CA) (hx : x.ev tm = .ptr (some (b, 0))) (hb : h.get b = some (.iter s pos)) (hp : pos < s.length) :
    runOp call (.nextS x) tm h = some (.tuple [.bool true, .int .i64 pos, .int .i32 (Utf8.decode ⟨s.toArray⟩ pos).1], h.set b (.iter s (pos + (Utf8.decode ⟨s.toArray⟩ pos).2))) := by
 simp only [runOp, CO.quiet, Bool.false_eq_true, if_false, effRun, hx, hb, hp, if_true]
theorem op_next_end {call : Rec} {tm : List AV} {h : AH} {s : List UInt8} {b pos : Nat} (x : CA) (hx : x.ev tm = .ptr (some (b, 0))) (hb : h.get b = some (.iter s pos)) (hp : ¬ pos < s.length) :
    runOp call (.nextS x) tm h = some (.tuple [.bool false], h) := by
 simp only [runOp, CO.quiet, Bool.false_eq_true, if_false, effRun, hx, hb, hp]
structure BnI (s : List UInt8) (h0 : AH) (n : Nat) (tm : List AV) (h : AH) : Prop where
 len : tm.length = 33
 t19 : tm.getD 19 AV.undef = .ptr (some (h0.n, 0))
 hn : h.n = h0.n + 1
 low : h0.n ≤ h.low
 st : ∃ i : Nat, n = s.length - i ∧ i ≤ s.length ∧ h.get h0.n = some (.iter s i) ∧ Ef.allC (s.take i) = true
theorem bname_spec (ho : orc 125 = none) (s : List UInt8) (h : AH) : acall orc T 125 [.str s] h = some (.bool (Ef.isName s), h) := by
 refine acall_sym ho tbl125 ?_
 cases s with
 | nil =>
   refine GD ?_
   have l1 : (((0 : Nat) : Int) == 0) = true := by decide
   have hE : Ef.isName [] = false := rfl
   rw [hE]
   (have fct := @l1; refine GO ?_; clear fct)
   (have fct := trivial; refine A_end ?_; clear fct; try exact trivial)
 | cons b s =>
   have l1 : (((s.length + 1 : Nat) : Int) == 0) = false := by rw [beq_eq_false_iff_ne]; omega
   by_cases hl : s.length + 1 ≤ 20
   · have l2 : decide ((20 : Int) < ((s.length + 1 : Nat) : Int)) = false := by rw [decide_eq_false_iff_not]; omega
     cases hb0 : ((b.toNat : Int) != 45) with
     | false =>
       have hb1 : ((b.toNat : Int) == 45) = true := by rw [bne, Bool.not_eq_false'] at hb0; exact hb0
       have hE : Ef.isName (b :: s) = false := by simp only [Ef.isName, List.headD_cons, hb0, Bool.and_false, Bool.false_and]
       rw [hE]
       refine GD ?_
       (have fct := Fj @l1 (Fj @l2 (Fj @Ef.op_idxS (Fj @Ef.idxSV_zero @hb1))); refine GO ?_; clear fct)
       (have fct := trivial; refine A_end ?_; clear fct; try exact trivial)
     | true =>
       have hb1 : ((b.toNat : Int) == 45) = false := by rw [bne, Bool.not_eq_true'] at hb0; exact hb0
       rw [Ef.isName_cons hl hb0]
       refine GD ?_
       (have fct := Fj @l1 (Fj @l2 (Fj @Ef.op_idxS (Fj @Ef.idxSV_zero @hb1))); refine GO ?_; clear fct)
       generalize hS : b :: s = S at *
       refine R_cons (op_iterS (s := S) (.t 18) rfl) rfl ?_
       refine A_tm ?_
       (have fct := @op_mv; refine GO ?_; clear fct)
       have hlen : S.length ≤ 20 := by rw [← hS]; simpa using hl
       refine CodeK_loop (BnI S h) S.length ?_ ?_
       · exact ⟨rfl, rfl, by simp, by simp, 0, rfl, Nat.zero_le _, Hp.get_push_self _ _, rfl⟩
       clear hS l1 l2 hb0 hb1 hl
       intro n tm H I
       obtain ⟨i, hn, hi, hg, ha⟩ := I.st
       have el := I.len
       have t19 := I.t19
       have Hn := I.hn
       have lo := I.low
       clear I
       refine K_seq (K_region ?_)
       by_cases hlt : i < S.length
       case neg =>
        obtain rfl : i = S.length := by omega
        rw [List.take_length] at ha
        rw [ha]
        refine R_cons (tm' := List.set _ 20 _) (op_next_end (.t 19) t19 hg hlt) rfl ?_
        (have fct := @el; refine GO ?_; clear fct)
        (have fct := @el; refine A_end ?_; clear fct; try exact trivial)
        exact lo
       case pos =>
        obtain ⟨x, hx⟩ : ∃ x, S[i]? = some x := ⟨_, List.getElem?_eq_getElem hlt⟩
        refine R_cons (tm' := List.set _ 20 _) (op_next_lt (.t 19) t19 hg hlt) rfl ?_
        have hbb : Ef.cutset.contains x = !(((x.toNat : Int) != 45) && (decide ((x.toNat : Int) < 97) || decide ((122 : Int) < (x.toNat : Int)))) := by rw [bad_byte2, Bool.not_not]
        by_cases h8 : x.toNat < 128
        case neg =>
         obtain ⟨q1, q2⟩ := dec_high hx (by omega)
         generalize (Utf8.decode ⟨S.toArray⟩ i) = d at *
         obtain ⟨r, k⟩ := d
         simp only at q1 q2
         have hA : decide ((r : Int) < 97) = false := by rw [decide_eq_false_iff_not]; omega
         have hB : decide ((122 : Int) < (r : Int)) = true := by rw [decide_eq_true_eq]; omega
         have hC : ((r : Int) != 45) = true := by rw [bne_iff_ne]; omega
         have hp : Ef.cutset.contains x = false := by
          rw [hbb]
          have e1 : ((x.toNat : Int) != 45) = true := by rw [bne_iff_ne]; omega
          have e2 : decide ((122 : Int) < (x.toNat : Int)) = true := by rw [decide_eq_true_eq]; omega
          rw [e1, e2, Bool.or_true]; rfl
         rw [Ef.all_take_false hx hp]
         (have fct := Fj @el (Fj @hA (Fj @hB @hC)); refine GO ?_; clear fct)
         (have fct := @el; refine A_end ?_; clear fct; try exact trivial)
         simp; omega
        case pos =>
         rw [dec_low hx h8]
         cases hA : decide ((x.toNat : Int) < 97) <;> cases hB : decide ((122 : Int) < (x.toNat : Int)) <;> cases hC : ((x.toNat : Int) != 45)
         all_goals (
          rw [hA, hB, hC] at hbb
          simp only [Bool.or_false, Bool.or_true, Bool.and_true, Bool.and_false, Bool.not_true, Bool.not_false] at hbb
          first
          | (have hp : Ef.cutset.contains x = true := hbb
             clear hbb
             (have fct := Fj @el (Fj @hA (Fj @hB @hC)); refine GO ?_; clear fct)
             exact ⟨S.length - (i + 1), by omega, by simp only [List.length_set, el], by simp only [fsTm, Nat.reduceBEq, Nat.reduceLT, el, t19], by simpa using Hn, by simp; omega, i + 1, rfl, by omega, Hp.get_set_self _ _ _, Ef.all_take_succ hx hp ha⟩)
          | (have hp : Ef.cutset.contains x = false := hbb
             clear hbb
             rw [Ef.all_take_false hx hp]
             (have fct := Fj @el (Fj @hA (Fj @hB @hC)); refine GO ?_; clear fct)
             (have fct := @el; refine A_end ?_; clear fct; try exact trivial)
             simp; omega))
   · have l2 : decide ((20 : Int) < ((s.length + 1 : Nat) : Int)) = true := by rw [decide_eq_true_eq]; omega
     have hE : Ef.isName (b :: s) = false := by
      have e2 : decide ((b :: s).length ≤ 20) = false := by simpa using hl
      rw [Ef.isName, e2, Bool.and_false, Bool.false_and, Bool.false_and]
     rw [hE]
     refine GD ?_
     (have fct := Fj @l1 @l2; refine GO ?_; clear fct)
     (have fct := trivial; refine A_end ?_; clear fct; try exact trivial)
structure RnI (s : List UInt8) (h0 : AH) (n : Nat) (tm : List AV) (h : AH) : Prop where
 len : tm.length = 44
 t0 : tm.getD 0 AV.undef = .str s
 hp : h = h0.withLow h0.n
 st : ∃ i : Nat, n = s.length - i ∧ i ≤ s.length ∧ tm.getD 3 AV.undef = .int .i64 (i : Int) ∧ Ef.allC (s.take i) = true
theorem rname7_spec (ho : orc 126 = none) (s : List UInt8) (h : AH) : acall orc T 126 [.str s] h = some (.bool (Ef.isName s), h) := by
 refine acall_sym ho tbl126 ?_
 cases s with
 | nil =>
   refine GD ?_
   have l1 : decide (((0 : Nat) : Int) < 1) = true := by decide
   have hE : Ef.isName [] = false := rfl
   rw [hE]
   (have fct := @l1; refine GO ?_; clear fct)
   (have fct := trivial; refine A_end ?_; clear fct; try exact trivial)
 | cons b s =>
   have l1 : decide (((s.length + 1 : Nat) : Int) < 1) = false := by rw [decide_eq_false_iff_not]; omega
   by_cases hl : s.length + 1 ≤ 20
   · have l2 : decide ((20 : Int) < ((s.length + 1 : Nat) : Int)) = false := by rw [decide_eq_false_iff_not]; omega
     have bad1 : decide ((b.toNat : Int) < 97) = true ∨ decide ((122 : Int) < (b.toNat : Int)) = true → Ef.isName (b :: s) = false := fun hh => by
      cases hb0 : ((b.toNat : Int) != 45) with
      | false => simp only [Ef.isName, List.headD_cons, hb0, Bool.and_false, Bool.false_and]
      | true =>
        rw [Ef.isName_cons hl hb0]
        refine Ef.all_take_false (show (b :: s)[0]? = some b from rfl) ?_
        have hbb : Ef.cutset.contains b = !(((b.toNat : Int) != 45) && (decide ((b.toNat : Int) < 97) || decide ((122 : Int) < (b.toNat : Int)))) := by rw [bad_byte2, Bool.not_not]
        rw [hbb, hb0]
        rcases hh with hh | hh <;> rw [hh] <;> simp
     cases hA0 : decide ((b.toNat : Int) < 97) with
     | true =>
       rw [bad1 (.inl hA0)]
       refine GD ?_
       (have fct := Fj @l1 (Fj @l2 (Fj @Ef.op_idxS (Fj @Ef.idxSV_zero @hA0))); refine GO ?_; clear fct)
       (have fct := trivial; refine A_end ?_; clear fct; try exact trivial)
     | false =>
       cases hB0 : decide ((122 : Int) < (b.toNat : Int)) with
       | true =>
         rw [bad1 (.inr hB0)]
         refine GD ?_
         (have fct := Fj @l1 (Fj @l2 (Fj @Ef.op_idxS (Fj @Ef.idxSV_zero (Fj @hA0 @hB0)))); refine GO ?_; clear fct)
         (have fct := trivial; refine A_end ?_; clear fct; try exact trivial)
       | false =>
       have hb0 : ((b.toNat : Int) != 45) = true := by
        rw [bne_iff_ne]
        have := of_decide_eq_false hA0
        omega
       rw [Ef.isName_cons hl hb0]
       refine GD ?_
       (have fct := Fj @l1 (Fj @l2 (Fj @Ef.op_idxS (Fj @Ef.idxSV_zero (Fj @hA0 @hB0)))); refine GO ?_; clear fct)
       have hlen : (b :: s).length ≤ 20 := by simpa using hl
       generalize hS : b :: s = S at *
       refine CodeK_loop (RnI S h) S.length ?_ ?_
       · exact ⟨rfl, rfl, rfl, 0, rfl, Nat.zero_le _, rfl, rfl⟩
       clear hS l1 l2 hb0 hA0 hB0 hl bad1
       intro n tm h' I
       obtain ⟨i, hn, hi, e3, ha⟩ := I.st
       have el := I.len
       have e0 := I.t0
       obtain rfl := I.hp
       by_cases hlt : i < S.length
       case neg =>
        obtain rfl : i = S.length := by omega
        have l1 : decide (((S.length : Nat) : Int) < ((S.length : Nat) : Int)) = false := by rw [decide_eq_false_iff_not]; omega
        rw [List.take_length] at ha
        rw [ha]
        (have fct := Fj @el (Fj @e0 (Fj @e3 @l1)); refine GO ?_; clear fct)
        (have fct := @el; refine A_end ?_; clear fct; try exact trivial)
       case pos =>
        have l1 : decide (((i : Nat) : Int) < ((S.length : Nat) : Int)) = true := by rw [decide_eq_true_eq]; omega
        have w1 : IntKind.wrap .i64 ((i : Int) + 1) = ((i + 1 : Nat) : Int) := by rw [wrap_i64 (by omega) (by omega)]; omega
        obtain ⟨x, hx⟩ : ∃ x, S[i]? = some x := ⟨_, List.getElem?_eq_getElem hlt⟩
        have c1 := fun h => Ef.idxSV_nat hx .i64 h
        have hbb : Ef.cutset.contains x = !(((x.toNat : Int) != 45) && (decide ((x.toNat : Int) < 97) || decide ((122 : Int) < (x.toNat : Int)))) := by rw [bad_byte2, Bool.not_not]
        cases hA : decide ((x.toNat : Int) < 97) <;> cases hB : decide ((122 : Int) < (x.toNat : Int)) <;> cases hC : ((x.toNat : Int) != 45)
        all_goals (
         rw [hA, hB, hC] at hbb
         simp only [Bool.or_false, Bool.or_true, Bool.and_true, Bool.and_false, Bool.not_true, Bool.not_false] at hbb
         first
         | (have hp : Ef.cutset.contains x = true := hbb
            clear hbb
            (have fct := Fj @el (Fj @e0 (Fj @e3 (Fj @l1 (Fj @w1 (Fj @Ef.op_idxS (Fj @c1 (Fj @hA (Fj @hB @hC)))))))); refine GO ?_; clear fct)
            exact ⟨S.length - (i + 1), by omega, by simp only [List.length_set, el], by simp only [fsTm, Nat.reduceBEq, Nat.reduceLT, el, e0], rfl, i + 1, rfl, by omega, by simp only [fsTm, Nat.reduceBEq, Nat.reduceLT, el], Ef.all_take_succ hx hp ha⟩)
         | (have hp : Ef.cutset.contains x = false := hbb
            clear hbb
            rw [Ef.all_take_false hx hp]
            (have fct := Fj @el (Fj @e0 (Fj @e3 (Fj @l1 (Fj @w1 (Fj @Ef.op_idxS (Fj @c1 (Fj @hA (Fj @hB @hC)))))))); refine GO ?_; clear fct)
            (have fct := @el; refine A_end ?_; clear fct; try exact trivial)))
   · have l2 : decide ((20 : Int) < ((s.length + 1 : Nat) : Int)) = true := by rw [decide_eq_true_eq]; omega
     have hE : Ef.isName (b :: s) = false := by
      have e2 : decide ((b :: s).length ≤ 20) = false := by simpa using hl
      rw [Ef.isName, e2, Bool.and_false, Bool.false_and, Bool.false_and]
     rw [hE]
     refine GD ?_
     (have fct := Fj @l1 @l2; refine GO ?_; clear fct)
     (have fct := trivial; refine A_end ?_; clear fct; try exact trivial)
def winB (n : Int) : Bool := decide (-9 ≤ n) && decide (n ≤ 9)
theorem bwithin_spec (ho : orc 124 = none) (n : Int) (h : AH) : acall orc T 124 [.int .i64 n] h = some (.bool (winB n), h) := by
 refine acall_sym ho tbl124 ?_
 unfold winB
 refine GD ?_
 cases h1 : decide (-9 ≤ n) with
 | true =>
   (have fct := @h1; refine GO ?_; clear fct)
   (have fct := @Bool.true_and; refine A_end ?_; clear fct; try exact trivial)
 | false =>
   (have fct := @h1; refine GO ?_; clear fct)
   (have fct := @Bool.false_and; refine A_end ?_; clear fct; try exact trivial)
end Go.Proofs.Cards
