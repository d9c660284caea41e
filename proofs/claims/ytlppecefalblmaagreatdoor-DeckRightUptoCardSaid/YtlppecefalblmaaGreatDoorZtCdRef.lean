/- The reference's check of a card: names, bounds, traits. -/
import Derived.Test.YtlppecefalblmaaGreatDoorFz05
import Derived.Test.YtlppecefalblmaaGreatDoorZtCdList
import Derived.Test.YtlppecefalblmaaGreatDoorZtEfRPrint
import Derived.Test.YtlppecefalblmaaGreatDoorZtCdRow
namespace Go.Proofs.Cards
set_option maxRecDepth 100000
set_option maxHeartbeats 32000000
open Go Go.Fs
set_option linter.unusedSimpArgs false
set_option linter.unusedVariables false
variable {orc : Orc}
def cf52 : CF := ⟨39, [(.tmp 2)], (.seq (.region [Zo 2 (.mv (.c (.bool false)))]) (.seq (.seq (.region [Zm 4 0, Zo 5 (.lenS (.t 4)), Zb 6 .lss (.t 5) (.c (.int .i64 1)), Zm 7 6, Zg 8 (.mv (.t 0)) 7 false, Zg 9 (.lenS (.t 8)) 7 false, Zg 10 (.bin .gtr .other (.t 9) (.c (.int .i64 20))) 7 false, Zo 11 (.pick (.t 7) (.c (.bool true)) (.t 10)), Zm 12 11, Zg 13 (.mv (.t 0)) 12 false, Zg 14 (.idxS (.t 13) (.c (.int .i64 0))) 12 false, Zg 15 (.bin .eql .other (.t 14) (.c (.int .u8 45))) 12 false, Zo 16 (.pick (.t 12) (.c (.bool true)) (.t 15))]) (.cond (.t 16) (.seq (.region [Zo 2 (.mv (.c (.bool false)))]) .ret) .skip)) (.seq (.seq (.region [Zo 3 (.mv (.c (.int .i64 0)))]) (.block 0 (.loop (.seq (.seq (.region [Zm 17 3, Zm 18 0, Zo 19 (.lenS (.t 18)), Zb 20 .lss (.t 17) (.t 19)]) (.cond (.t 20) .skip (.exit 0))) (.seq (.block 1 (.seq (.region [Zm 23 0, Zm 24 3, Zo 25 (.idxS (.t 23) (.t 24)), Zb 26 .neq (.t 25) (.c (.int .u8 45)), Zm 27 26, Zg 28 (.mv (.t 0)) 27 true, Zg 29 (.mv (.t 3)) 27 true, Zg 30 (.idxS (.t 28) (.t 29)) 27 true, Zg 31 (.bin .lss .other (.t 30) (.c (.int .u8 97))) 27 true, Zg 32 (.mv (.t 31)) 27 true, Zg 33 (.mv (.t 0)) 32 false, Zg 34 (.mv (.t 3)) 32 false, Zg 35 (.idxS (.t 33) (.t 34)) 32 false, Zg 36 (.bin .gtr .other (.t 35) (.c (.int .u8 122))) 32 false, Zg 37 (.pick (.t 32) (.c (.bool true)) (.t 36)) 27 true, Zo 38 (.pick (.t 27) (.t 37) (.c (.bool false)))]) (.cond (.t 38) (.seq (.region [Zo 2 (.mv (.c (.bool false)))]) .ret) .skip))) (.region [Zm 21 3, Zb 22 .add (.t 21) (.c (.int .i64 1)), Zm 3 22])))))) (.seq (.region [Zo 2 (.mv (.c (.bool true)))]) .ret))))⟩
def cf53 : CF := ⟨15, [(.tmp 6)], (.seq (.region [Zo 6 (.mv (.c (.bool false)))]) (.seq (.region [Zm 7 0, Zm 8 1, Zb 9 .geq (.t 7) (.t 8), Zm 10 9, Zg 11 (.mv (.t 0)) 10 true, Zg 12 (.mv (.t 2)) 10 true, Zg 13 (.bin .leq .other (.t 11) (.t 12)) 10 true, Zo 14 (.pick (.t 10) (.t 13) (.c (.bool false))), Zm 6 14]) .ret))⟩
def cf54 : CF := ⟨5, [(.tmp 2)], (.seq (.region [Zo 2 (.mv (.c (.bool false)))]) (.seq (.region [Zm 3 0, Zb 4 .lss (.t 3) (.c (.int .u16 256)), Zm 2 4]) .ret))⟩
theorem tbl52 : tbl Tryz.prog 52 = some cf52 := by kernel_rfl
theorem tbl53 : tbl Tryz.prog 53 = some cf53 := by kernel_rfl
theorem tbl54 : tbl Tryz.prog 54 = some cf54 := by kernel_rfl
theorem bad_byte2 (b : UInt8) : (((b.toNat : Int) != 45) && (decide ((b.toNat : Int) < 97) || decide ((122 : Int) < (b.toNat : Int)))) = !Ef.cutset.contains b := by
 rw [Bool.and_comm]; exact Ef.bad_byte b
structure NaI (s : List UInt8) (h0 : AH) (n : Nat) (tm : List AV) (h : AH) : Prop where
 len : tm.length = 39
 t0 : tm.getD 0 AV.undef = .str s
 hp : h = h0.withLow h0.n
 st : ∃ i : Nat, n = s.length - i ∧ i ≤ s.length ∧ tm.getD 3 AV.undef = .int .i64 (i : Int) ∧ Ef.allC (s.take i) = true
theorem namemay_spec (ho : orc 52 = none) (s : List UInt8) (h : AH) : acall orc T 52 [.str s] h = some (.bool (Ef.isName s), h) := by
 refine acall_sym ho tbl52 ?_
 cases s with
 | nil =>
   refine GD ?_
   have l1 : decide (((0 : Nat) : Int) < 1) = true := by decide
   have hE : Ef.isName [] = false := rfl
   rw [hE]
   (have fct := @l1; refine GO ?_; clear fct)
   (have fct := trivial; refine A_end ?_; clear fct; try exact trivial)
 | cons b s =>
   have l1 : decide (((s.length + 1 : Nat) : Int) < 1) = false := by rw [decide_eq_false_iff_not]; omega
   by_cases hl : s.length + 1 ≤ 20
   · have l2 : decide ((20 : Int) < ((s.length + 1 : Nat) : Int)) = false := by rw [decide_eq_false_iff_not]; omega
     cases hb0 : ((b.toNat : Int) != 45) with
     | false =>
       have hb1 : ((b.toNat : Int) == 45) = true := by rw [bne, Bool.not_eq_false'] at hb0; exact hb0
       have hE : Ef.isName (b :: s) = false := by simp only [Ef.isName, List.headD_cons, hb0, Bool.and_false, Bool.false_and]
       rw [hE]
       refine GD ?_
       (have fct := Fj @l1 (Fj @l2 (Fj @Ef.op_idxS (Fj @Ef.idxSV_zero @hb1))); refine GO ?_; clear fct)
       (have fct := trivial; refine A_end ?_; clear fct; try exact trivial)
     | true =>
       have hb1 : ((b.toNat : Int) == 45) = false := by rw [bne, Bool.not_eq_true'] at hb0; exact hb0
       rw [Ef.isName_cons hl hb0]
       refine GD ?_
       (have fct := Fj @l1 (Fj @l2 (Fj @Ef.op_idxS (Fj @Ef.idxSV_zero @hb1))); refine GO ?_; clear fct)
       have hlen : (b :: s).length ≤ 20 := by simpa using hl
       generalize hS : b :: s = S at *
       refine CodeK_loop (NaI S h) S.length ?_ ?_
       · exact ⟨rfl, rfl, rfl, 0, rfl, Nat.zero_le _, rfl, rfl⟩
       clear hS l1 l2 hb0 hb1 hl
       intro n tm h' I
       obtain ⟨i, hn, hi, e3, ha⟩ := I.st
       have el := I.len
       have e0 := I.t0
       obtain rfl := I.hp
       by_cases hlt : i < S.length
       case neg =>
        obtain rfl : i = S.length := by omega
        have l1 : decide (((S.length : Nat) : Int) < ((S.length : Nat) : Int)) = false := by rw [decide_eq_false_iff_not]; omega
        rw [List.take_length] at ha
        rw [ha]
        (have fct := Fj @el (Fj @e0 (Fj @e3 @l1)); refine GO ?_; clear fct)
        (have fct := @el; refine A_end ?_; clear fct; try exact trivial)
       case pos =>
        have l1 : decide (((i : Nat) : Int) < ((S.length : Nat) : Int)) = true := by rw [decide_eq_true_eq]; omega
        have w1 : IntKind.wrap .i64 ((i : Int) + 1) = ((i + 1 : Nat) : Int) := by rw [wrap_i64 (by omega) (by omega)]; omega
        obtain ⟨x, hx⟩ : ∃ x, S[i]? = some x := ⟨_, List.getElem?_eq_getElem hlt⟩
        have c1 := fun h => Ef.idxSV_nat hx .i64 h
        have hbb : Ef.cutset.contains x = !(((x.toNat : Int) != 45) && (decide ((x.toNat : Int) < 97) || decide ((122 : Int) < (x.toNat : Int)))) := by rw [bad_byte2, Bool.not_not]
        cases hA : decide ((x.toNat : Int) < 97) <;> cases hB : decide ((122 : Int) < (x.toNat : Int)) <;> cases hC : ((x.toNat : Int) != 45)
        all_goals (
         rw [hA, hB, hC] at hbb
         simp only [Bool.or_false, Bool.or_true, Bool.and_true, Bool.and_false, Bool.not_true, Bool.not_false] at hbb
         first
         | (have hp : Ef.cutset.contains x = true := hbb
            clear hbb
            (have fct := Fj @el (Fj @e0 (Fj @e3 (Fj @l1 (Fj @w1 (Fj @Ef.op_idxS (Fj @c1 (Fj @hA (Fj @hB @hC)))))))); refine GO ?_; clear fct)
            exact ⟨S.length - (i + 1), by omega, by simp only [List.length_set, el], by simp only [fsTm, Nat.reduceBEq, Nat.reduceLT, el, e0], rfl, i + 1, rfl, by omega, by simp only [fsTm, Nat.reduceBEq, Nat.reduceLT, el], Ef.all_take_succ hx hp ha⟩)
         | (have hp : Ef.cutset.contains x = false := hbb
            clear hbb
            rw [Ef.all_take_false hx hp]
            (have fct := Fj @el (Fj @e0 (Fj @e3 (Fj @l1 (Fj @w1 (Fj @Ef.op_idxS (Fj @c1 (Fj @hA (Fj @hB @hC)))))))); refine GO ?_; clear fct)
            (have fct := @el; refine A_end ?_; clear fct; try exact trivial)))
   · have l2 : decide ((20 : Int) < ((s.length + 1 : Nat) : Int)) = true := by rw [decide_eq_true_eq]; omega
     have hE : Ef.isName (b :: s) = false := by
      have e2 : decide ((b :: s).length ≤ 20) = false := by simpa using hl
      rw [Ef.isName, e2, Bool.and_false, Bool.false_and, Bool.false_and]
     rw [hE]
     refine GD ?_
     (have fct := Fj @l1 @l2; refine GO ?_; clear fct)
     (have fct := trivial; refine A_end ?_; clear fct; try exact trivial)
def wlB (n lo hi : Int) : Bool := decide (lo ≤ n) && decide (n ≤ hi)
theorem rwi_spec (ho : orc 53 = none) (n lo hi : Int) (h : AH) : acall orc T 53 [.int .i64 n, .int .i64 lo, .int .i64 hi] h = some (.bool (wlB n lo hi), h) := by
 refine acall_sym ho tbl53 ?_
 unfold wlB
 refine GD ?_
 cases h1 : decide (lo ≤ n) with
 | true =>
   (have fct := @h1; refine GO ?_; clear fct)
   (have fct := @Bool.true_and; refine A_end ?_; clear fct; try exact trivial)
 | false =>
   (have fct := @h1; refine GO ?_; clear fct)
   (have fct := @Bool.false_and; refine A_end ?_; clear fct; try exact trivial)
theorem rtcheck_spec (ho : orc 54 = none) (t : Int) (h0 : 0 ≤ t) (h1 : t ≤ 65535) (h : AH) : acall orc T 54 [.int .u16 t] h = some (.bool (tcB t), h) := by
 refine acall_sym ho tbl54 ?_
 have e : decide (t < 256) = tcB t := by
  unfold tcB
  rw [Bool.eq_iff_iff, decide_eq_true_eq, beq_iff_eq, Int.fdiv_eq_ediv_of_nonneg _ (by decide)]
  omega
 refine GD ?_
 (have fct := @e; refine GO ?_; clear fct)
 (have fct := trivial; refine A_end ?_; clear fct; try exact trivial)
end Go.Proofs.Cards
