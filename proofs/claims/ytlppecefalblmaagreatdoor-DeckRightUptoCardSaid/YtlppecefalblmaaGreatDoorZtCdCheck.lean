/- Which cards may be: the code's own check, in plain words. -/
import Derived.Test.YtlppecefalblmaaGreatDoorFz05
import Derived.Test.YtlppecefalblmaaGreatDoorZtCdMem
namespace Go.Proofs.Cards
set_option maxRecDepth 100000
set_option maxHeartbeats 32000000
open Go Go.Fs
set_option linter.unusedSimpArgs false
set_option linter.unusedVariables false
variable {orc : Orc}
def cf8 : CF := ⟨43, [(.tmp 2)], (.seq (.region [Zo 1 (.box (.t 0)), Zo 2 (.mv (.c (.int .i64 0)))]) (.seq (.seq (.region [Zo 7 (.load (some 9) (.t 1)), Zo 8 (.call (.f 36) [(.t 7)]), Zm 3 8]) (.seq (.region [Zm 9 3, Zb 10 .neq (.t 9) (.c (.int .i64 0))]) (.cond (.t 10) (.seq (.region [Zm 11 3, Zm 2 11]) .ret) .skip))) (.seq (.seq (.region [Zf 12 8 1, Zl 13 12, Zo 14 (.lenV (.t 13)), Zo 15 (.mv (.c (.int .i64 0)))]) (.block 0 (.loop (.seq (.region [Zb 16 .lss (.t 15) (.t 14)]) (.seq (.cond (.t 16) .skip (.exit 0)) (.seq (.block 1 (.seq (.region [Zo 17 (.iaddrS 8 (.t 13) (.t 15)), Zo 18 (.load (some 8) (.t 17)), Zo 5 (.alloc [(.int .u8 0), (.int .u8 0), (.int .u8 0), (.int .i64 0), (.int .u8 0), (.int .u8 0), (.int .u8 0), (.str [])]), Zn (.store 8 (.t 5) (.t 18))]) (.seq (.seq (.region [Zo 19 (.load (some 8) (.t 5)), Zo 20 (.call (.f 37) [(.t 19)]), Zm 6 20]) (.seq (.region [Zm 21 6, Zb 22 .neq (.t 21) (.c (.int .i64 0))]) (.cond (.t 22) (.seq (.region [Zm 23 6, Zm 2 23]) .ret) .skip))) (.seq (.region [Zf 24 2 1, Zl 25 24, Zb 26 .eql (.t 25) (.c (.int .u8 2)), Zm 27 26, Zg 28 (.faddr 0 (.t 5)) 27 true, Zg 29 (.load none (.t 28)) 27 true, Zg 30 (.bin .neq .other (.t 29) (.c (.int .u8 1))) 27 true, Zo 31 (.pick (.t 27) (.t 30) (.c (.bool false))), Zm 32 31, Zg 33 (.faddr 2 (.t 1)) 32 false, Zg 34 (.load none (.t 33)) 32 false, Zg 35 (.bin .eql .other (.t 34) (.c (.int .u8 3))) 32 false, Zg 36 (.mv (.t 35)) 32 false, Zg 37 (.faddr 0 (.t 5)) 36 true, Zg 38 (.load none (.t 37)) 36 true, Zg 39 (.bin .eql .other (.t 38) (.c (.int .u8 4))) 36 true, Zg 40 (.pick (.t 36) (.t 39) (.c (.bool false))) 32 false, Zo 41 (.pick (.t 32) (.c (.bool true)) (.t 40))]) (.cond (.t 41) (.seq (.region [Zo 2 (.mv (.c (.int .i64 8)))]) .ret) .skip))))) (.region [Zb 42 .add (.t 15) (.c (.int .i64 1)), Zm 15 42]))))))) (.seq (.region [Zo 2 (.mv (.c (.int .i64 0)))]) .ret))))⟩
def cf36 : CF := ⟨80, [(.tmp 2)], (.seq (.region [Zo 1 (.box (.t 0)), Zo 2 (.mv (.c (.int .i64 0)))]) (.seq (.region [Zf 4 2 1, Zl 5 4, Zb 6 .eql (.t 5) (.c (.int .u8 1)), Zm 3 6]) (.seq (.block 0 (.seq (.region [Zf 8 0 1, Zl 9 8, Zo 10 (.call (.f 86) [(.t 9)]), Zo 11 (.un .not (.t 10)), Zm 7 11]) (.cond (.t 7) (.seq (.region [Zo 2 (.mv (.c (.int .i64 4)))]) .ret) (.seq (.region [Zf 13 1 1, Zl 14 13, Zo 15 (.call (.f 38) [(.t 14)]), Zb 16 .eql (.t 15) (.c (.str [])), Zm 17 16, Zg 18 (.faddr 2 (.t 1)) 17 false, Zg 19 (.load none (.t 18)) 17 false, Zg 20 (.call (.f 39) [(.t 19)]) 17 false, Zg 21 (.bin .eql .other (.t 20) (.c (.str []))) 17 false, Zo 22 (.pick (.t 17) (.c (.bool true)) (.t 21)), Zm 12 22]) (.cond (.t 12) (.seq (.region [Zo 2 (.mv (.c (.int .i64 8)))]) .ret) (.seq (.region [Zf 24 3 1, Zl 25 24, Zo 26 (.call (.f 87) [(.t 25), (.c (.int .i64 10))]), Zo 27 (.un .not (.t 26)), Zm 28 27, Zg 29 (.faddr 4 (.t 1)) 28 false, Zg 30 (.load none (.t 29)) 28 false, Zg 31 (.call (.f 87) [(.t 30), (.c (.int .i64 99))]) 28 false, Zg 32 (.un .not (.t 31)) 28 false, Zo 33 (.pick (.t 28) (.c (.bool true)) (.t 32)), Zm 34 33, Zg 35 (.faddr 5 (.t 1)) 34 false, Zg 36 (.load none (.t 35)) 34 false, Zg 37 (.call (.f 87) [(.t 36), (.c (.int .i64 99))]) 34 false, Zg 38 (.un .not (.t 37)) 34 false, Zo 39 (.pick (.t 34) (.c (.bool true)) (.t 38)), Zm 23 39]) (.cond (.t 23) (.seq (.region [Zo 2 (.mv (.c (.int .i64 2)))]) .ret) (.seq (.region [Zm 41 3, Zm 42 41, Zg 43 (.faddr 5 (.t 1)) 42 true, Zg 44 (.load none (.t 43)) 42 true, Zg 45 (.bin .eql .other (.t 44) (.c (.int .i64 0))) 42 true, Zo 46 (.pick (.t 42) (.t 45) (.c (.bool false))), Zm 47 46, Zg 48 (.mv (.t 3)) 47 false, Zg 49 (.un .not (.t 48)) 47 false, Zg 50 (.mv (.t 49)) 47 false, Zg 51 (.faddr 4 (.t 1)) 50 true, Zg 52 (.load none (.t 51)) 50 true, Zg 53 (.bin .neq .other (.t 52) (.c (.int .i64 0))) 50 true, Zg 54 (.mv (.t 53)) 50 true, Zg 55 (.faddr 5 (.t 1)) 54 false, Zg 56 (.load none (.t 55)) 54 false, Zg 57 (.bin .neq .other (.t 56) (.c (.int .i64 0))) 54 false, Zg 58 (.pick (.t 54) (.c (.bool true)) (.t 57)) 50 true, Zg 59 (.pick (.t 50) (.t 58) (.c (.bool false))) 47 false, Zo 60 (.pick (.t 47) (.c (.bool true)) (.t 59)), Zm 40 60]) (.cond (.t 40) (.seq (.region [Zo 2 (.mv (.c (.int .i64 8)))]) .ret) (.seq (.region [Zf 62 6 1, Zl 63 62, Zo 64 (.call (.f 88) [(.t 63)]), Zo 65 (.un .not (.t 64)), Zm 66 65, Zg 67 (.faddr 2 (.t 1)) 66 false, Zg 68 (.load none (.t 67)) 66 false, Zg 69 (.bin .eql .other (.t 68) (.c (.int .u8 2))) 66 false, Zg 70 (.mv (.t 69)) 66 false, Zg 71 (.faddr 7 (.t 1)) 70 true, Zg 72 (.load none (.t 71)) 70 true, Zg 73 (.pick (.t 70) (.t 72) (.c (.bool false))) 66 false, Zo 74 (.pick (.t 66) (.c (.bool true)) (.t 73)), Zm 61 74]) (.cond (.t 61) (.seq (.region [Zo 2 (.mv (.c (.int .i64 8)))]) .ret) (.seq (.region [Zf 76 8 1, Zl 77 76, Zo 78 (.lenV (.t 77)), Zb 79 .gtr (.t 78) (.c (.int .i64 4)), Zm 75 79]) (.cond (.t 75) (.seq (.region [Zo 2 (.mv (.c (.int .i64 3)))]) .ret) .skip))))))))))))) (.seq (.region [Zo 2 (.mv (.c (.int .i64 0)))]) .ret))))⟩
def cf86 : CF := ⟨21, [(.tmp 2)], (.seq (.region [Zo 2 (.mv (.c (.bool false)))]) (.seq (.region [Zm 3 0, Zo 4 (.lenS (.t 3)), Zb 5 .gtr (.t 4) (.c (.int .i64 0)), Zm 6 5, Zg 7 (.mv (.t 0)) 6 true, Zg 8 (.lenS (.t 7)) 6 true, Zg 9 (.bin .leq .other (.t 8) (.c (.int .i64 20))) 6 true, Zo 10 (.pick (.t 6) (.t 9) (.c (.bool false))), Zm 11 10, Zg 12 (.mv (.t 0)) 11 true, Zg 13 (.idxS (.t 12) (.c (.int .i64 0))) 11 true, Zg 14 (.bin .neq .other (.t 13) (.c (.int .u8 45))) 11 true, Zo 15 (.pick (.t 11) (.t 14) (.c (.bool false))), Zm 16 15, Zg 17 (.mv (.t 0)) 16 true, Zg 18 (.call (.f 131) [(.t 17), (.c (.str [97, 98, 99, 100, 101, 102, 103, 104, 105, 106, 107, 108, 109, 110, 111, 112, 113, 114, 115, 116, 117, 118, 119, 120, 121, 122, 45]))]) 16 true, Zg 19 (.bin .eql .other (.t 18) (.c (.str []))) 16 true, Zo 20 (.pick (.t 16) (.t 19) (.c (.bool false))), Zm 2 20]) .ret))⟩
def cf87 : CF := ⟨12, [(.tmp 4)], (.seq (.region [Zo 4 (.mv (.c (.bool false)))]) (.seq (.region [Zm 5 0, Zb 6 .geq (.t 5) (.c (.int .i64 0)), Zm 7 6, Zg 8 (.mv (.t 0)) 7 true, Zg 9 (.mv (.t 1)) 7 true, Zg 10 (.bin .leq .other (.t 8) (.t 9)) 7 true, Zo 11 (.pick (.t 7) (.t 10) (.c (.bool false))), Zm 4 11]) .ret))⟩
def cf38 : CF := ⟨16, [(.tmp 2)], (.seq (.region [Zo 2 (.mv (.c (.str [])))]) (.seq (.seq (.region [Zm 3 0]) (.block 0 (.seq (.region [Zb 5 .eql (.t 3) (.c (.int .u8 1)), Zm 4 5]) (.cond (.t 4) (.seq (.region [Zo 2 (.mv (.c (.str [97, 105, 114])))]) .ret) (.seq (.region [Zb 7 .eql (.t 3) (.c (.int .u8 2)), Zm 6 7]) (.cond (.t 6) (.seq (.region [Zo 2 (.mv (.c (.str [101, 97, 114, 116, 104])))]) .ret) (.seq (.region [Zb 9 .eql (.t 3) (.c (.int .u8 3)), Zm 8 9]) (.cond (.t 8) (.seq (.region [Zo 2 (.mv (.c (.str [102, 105, 114, 101])))]) .ret) (.seq (.region [Zb 11 .eql (.t 3) (.c (.int .u8 4)), Zm 10 11]) (.cond (.t 10) (.seq (.region [Zo 2 (.mv (.c (.str [119, 97, 116, 101, 114])))]) .ret) (.seq (.region [Zb 13 .eql (.t 3) (.c (.int .u8 5)), Zm 12 13]) (.cond (.t 12) (.seq (.region [Zo 2 (.mv (.c (.str [118, 111, 105, 100])))]) .ret) (.seq (.region [Zb 15 .eql (.t 3) (.c (.int .u8 6)), Zm 14 15]) (.cond (.t 14) (.seq (.region [Zo 2 (.mv (.c (.str [103, 111, 108, 100])))]) .ret) .skip)))))))))))))) (.seq (.region [Zo 2 (.mv (.c (.str [])))]) .ret)))⟩
def cf39 : CF := ⟨10, [(.tmp 2)], (.seq (.region [Zo 2 (.mv (.c (.str [])))]) (.seq (.seq (.region [Zm 3 0]) (.block 0 (.seq (.region [Zb 5 .eql (.t 3) (.c (.int .u8 1)), Zm 4 5]) (.cond (.t 4) (.seq (.region [Zo 2 (.mv (.c (.str [117, 110, 105, 116])))]) .ret) (.seq (.region [Zb 7 .eql (.t 3) (.c (.int .u8 2)), Zm 6 7]) (.cond (.t 6) (.seq (.region [Zo 2 (.mv (.c (.str [115, 112, 101, 108, 108])))]) .ret) (.seq (.region [Zb 9 .eql (.t 3) (.c (.int .u8 3)), Zm 8 9]) (.cond (.t 8) (.seq (.region [Zo 2 (.mv (.c (.str [114, 101, 108, 105, 99])))]) .ret) .skip)))))))) (.seq (.region [Zo 2 (.mv (.c (.str [])))]) .ret)))⟩
def cf88 : CF := ⟨6, [(.tmp 2)], (.seq (.region [Zo 2 (.mv (.c (.bool false)))]) (.seq (.region [Zm 3 0, Zb 4 .shr (.t 3) (.c (.int .u64 8)), Zb 5 .eql (.t 4) (.c (.int .u16 0)), Zm 2 5]) .ret))⟩
theorem tbl8 : tbl Tryz.prog 8 = some cf8 := by kernel_rfl
theorem tbl36 : tbl Tryz.prog 36 = some cf36 := by kernel_rfl
theorem tbl86 : tbl Tryz.prog 86 = some cf86 := by kernel_rfl
theorem tbl87 : tbl Tryz.prog 87 = some cf87 := by kernel_rfl
theorem tbl38 : tbl Tryz.prog 38 = some cf38 := by kernel_rfl
theorem tbl39 : tbl Tryz.prog 39 = some cf39 := by kernel_rfl
theorem tbl88 : tbl Tryz.prog 88 = some cf88 := by kernel_rfl
def snm (s : Int) : List UInt8 := if 1 ≤ s ∧ s ≤ 6 then Ef.sN s else []
def wrd (k : Int) : List UInt8 := if k = 1 then [117, 110, 105, 116] else if k = 2 then [115, 112, 101, 108, 108] else if k = 3 then [114, 101, 108, 105, 99] else []
def wiB (n m : Int) : Bool := decide (0 ≤ n) && decide (n ≤ m)
def tcB (t : Int) : Bool := t.fdiv 256 == 0
theorem sname_spec (ho : orc 38 = none) (s : Int) (h : AH) : acall orc T 38 [.int .u8 s] h = some (.str (snm s), h) := by
 refine acall_sym ho tbl38 ?_
 refine GD ?_
 have e : ∀ k : Int, s = k → 1 ≤ k → k ≤ 6 → snm s = Ef.sN k := fun k h1 h2 h3 => by subst h1; unfold snm; rw [if_pos ⟨h2, h3⟩]
 by_cases hs : 1 ≤ s ∧ s ≤ 6
 · have : s = 1 ∨ s = 2 ∨ s = 3 ∨ s = 4 ∨ s = 5 ∨ s = 6 := by omega
   rcases this with rfl | rfl | rfl | rfl | rfl | rfl
   all_goals (rw [e _ rfl (by decide) (by decide)]; clear e hs)
   · (have fct := @op_mv; refine GO ?_; clear fct)
     (have fct := trivial; refine A_end ?_; clear fct; try exact trivial)
     rfl
   · (have fct := @op_mv; refine GO ?_; clear fct)
     (have fct := trivial; refine A_end ?_; clear fct; try exact trivial)
     rfl
   · (have fct := @op_mv; refine GO ?_; clear fct)
     (have fct := trivial; refine A_end ?_; clear fct; try exact trivial)
     rfl
   · (have fct := @op_mv; refine GO ?_; clear fct)
     (have fct := trivial; refine A_end ?_; clear fct; try exact trivial)
     rfl
   · (have fct := @op_mv; refine GO ?_; clear fct)
     (have fct := trivial; refine A_end ?_; clear fct; try exact trivial)
     rfl
   · (have fct := @op_mv; refine GO ?_; clear fct)
     (have fct := trivial; refine A_end ?_; clear fct; try exact trivial)
     rfl
 · have e0 : snm s = [] := by unfold snm; rw [if_neg hs]
   rw [e0]
   have n1 : (s == 1) = false := by rw [beq_eq_false_iff_ne]; omega
   have n2 : (s == 2) = false := by rw [beq_eq_false_iff_ne]; omega
   have n3 : (s == 3) = false := by rw [beq_eq_false_iff_ne]; omega
   have n4 : (s == 4) = false := by rw [beq_eq_false_iff_ne]; omega
   have n5 : (s == 5) = false := by rw [beq_eq_false_iff_ne]; omega
   have n6 : (s == 6) = false := by rw [beq_eq_false_iff_ne]; omega
   (have fct := Fj @n1 (Fj @n2 (Fj @n3 (Fj @n4 (Fj @n5 @n6)))); refine GO ?_; clear fct)
   (have fct := trivial; refine A_end ?_; clear fct; try exact trivial)
theorem word_spec (ho : orc 39 = none) (k : Int) (h : AH) : acall orc T 39 [.int .u8 k] h = some (.str (wrd k), h) := by
 refine acall_sym ho tbl39 ?_
 refine GD ?_
 by_cases hs : 1 ≤ k ∧ k ≤ 3
 · have : k = 1 ∨ k = 2 ∨ k = 3 := by omega
   rcases this with rfl | rfl | rfl
   · (have fct := @op_mv; refine GO ?_; clear fct)
     (have fct := trivial; refine A_end ?_; clear fct; try exact trivial)
     rfl
   · (have fct := @op_mv; refine GO ?_; clear fct)
     (have fct := trivial; refine A_end ?_; clear fct; try exact trivial)
     rfl
   · (have fct := @op_mv; refine GO ?_; clear fct)
     (have fct := trivial; refine A_end ?_; clear fct; try exact trivial)
     rfl
 · have n1 : (k == 1) = false := by rw [beq_eq_false_iff_ne]; omega
   have n2 : (k == 2) = false := by rw [beq_eq_false_iff_ne]; omega
   have n3 : (k == 3) = false := by rw [beq_eq_false_iff_ne]; omega
   have e0 : wrd k = [] := by unfold wrd; rw [if_neg (by omega), if_neg (by omega), if_neg (by omega)]
   rw [e0]
   (have fct := Fj @n1 (Fj @n2 @n3); refine GO ?_; clear fct)
   (have fct := trivial; refine A_end ?_; clear fct; try exact trivial)
theorem cwithin_spec (ho : orc 87 = none) (n m : Int) (h : AH) : acall orc T 87 [.int .i64 n, .int .i64 m] h = some (.bool (wiB n m), h) := by
 refine acall_sym ho tbl87 ?_
 unfold wiB
 refine GD ?_
 cases h1 : decide (0 ≤ n) with
 | true =>
   (have fct := @h1; refine GO ?_; clear fct)
   (have fct := @Bool.true_and; refine A_end ?_; clear fct; try exact trivial)
 | false =>
   (have fct := @h1; refine GO ?_; clear fct)
   (have fct := @Bool.false_and; refine A_end ?_; clear fct; try exact trivial)
theorem tcheck_spec (ho : orc 88 = none) (t : Int) (h : AH) : acall orc T 88 [.int .u16 t] h = some (.bool (tcB t), h) := by
 refine acall_sym ho tbl88 ?_
 have e : ashift .shr .u16 t 8 = some (.int .u16 (t.fdiv 256)) := by simp [ashift, IntKind.bits]
 refine GD ?_
 (have fct := @e; refine GO ?_; clear fct)
 (have fct := @tcB.eq_1; refine A_end ?_; clear fct; try exact trivial)
theorem named_spec (ho : orc 86 = none) (ht : Ef.Trims orc) (s : List UInt8) (h : AH) : acall orc T 86 [.str s] h = some (.bool (Ef.isName s), h) := by
 refine acall_sym ho tbl86 ?_
 cases s with
 | nil =>
   refine GD ?_
   have l1 : decide ((0 : Int) < ((0 : Nat) : Int)) = false := by decide
   (have fct := @l1; refine GO ?_; clear fct)
   (have fct := trivial; refine A_end ?_; clear fct; try exact trivial)
   rfl
 | cons b s =>
   have l1 : decide ((0 : Int) < ((s.length + 1 : Nat) : Int)) = true := by rw [decide_eq_true_eq]; omega
   by_cases hl : s.length + 1 ≤ 20
   · have l2 : decide (((s.length + 1 : Nat) : Int) ≤ 20) = true := by rw [decide_eq_true_eq]; omega
     have c1 := ht (b :: s) (h := h.withLow h.n) (by simpa using hl)
     unfold Ef.cutset at c1
     cases hb0 : ((b.toNat : Int) != 45) with
     | false =>
       refine GD ?_
       (have fct := Fj @l1 (Fj @l2 (Fj @Ef.op_idxS (Fj @Ef.idxSV_zero @hb0))); refine GO ?_; clear fct)
       (have fct := trivial; refine A_end ?_; clear fct; try exact trivial)
       simp only [Ef.isName, List.headD_cons, hb0, Bool.and_false, Bool.false_and]
     | true =>
       have hE : Ef.isName (b :: s) = decide (Lib.trimS (b :: s) Ef.cutset = []) := by
        have e1 : decide (1 ≤ (b :: s).length) = true := by simp
        have e2 : decide ((b :: s).length ≤ 20) = true := by simpa using hl
        rw [Ef.isName, e1, e2, List.headD_cons, hb0, Bool.true_and, Bool.true_and, Bool.true_and, Bool.eq_iff_iff, decide_eq_true_eq]
        exact (Ef.trimS_nil _).symm
       rw [hE]
       unfold Ef.cutset
       refine GD ?_
       (have fct := Fj @l1 (Fj @l2 (Fj @Ef.op_idxS (Fj @Ef.idxSV_zero (Fj @hb0 (Fj @c1 fsAstr))))); refine GO ?_; clear fct)
       (have fct := trivial; refine A_end ?_; clear fct; try exact trivial)
   · have l2 : decide (((s.length + 1 : Nat) : Int) ≤ 20) = false := by rw [decide_eq_false_iff_not]; omega
     have hE : Ef.isName (b :: s) = false := by
      have e2 : decide ((b :: s).length ≤ 20) = false := by simpa using hl
      rw [Ef.isName, e2, Bool.and_false, Bool.false_and, Bool.false_and]
     rw [hE]
     refine GD ?_
     (have fct := Fj @l1 @l2; refine GO ?_; clear fct)
     (have fct := trivial; refine A_end ?_; clear fct; try exact trivial)
def faceB (b1 b2 b3 b4 b5 b6 b7 b8 b9 b10 b11 b12 b14 b13 : Bool) : Int :=
 if b1 = false then 4 else if (b2 || b3) = true then 8 else if (!b4 || !b5 || !b6) = true then 2 else if (b7 && b8 || !b7 && (b9 || b10)) = true then 8 else if (!b11 || b12 && b14) = true then 8 else if b13 = true then 3 else 0
def faceE (c : Crd) (n : Nat) : Int := faceB (Ef.isName c.name) (decide (snm c.suit = [])) (decide (wrd c.kind = [])) (wiB c.cost 10) (wiB c.power 99) (wiB c.health 99) (c.kind == 1) (c.health == 0) (c.power != 0) (c.health != 0) (tcB c.traits) (c.kind == 2) c.token (decide (4 < (n : Int)))
theorem face_spec (ho : ∀ f, f ∈ [36, 86, 87, 38, 39, 88] → orc f = none) (ht : Ef.Trims orc) (c : Crd) (a : Option (Nat × Nat)) (n : Nat) (cap : Cap) (h : AH) : acall orc T 36 [.agg (c.cells (.slice a n cap))] h = some (.int .i64 (faceE c n), h) := by
 refine acall_sym (ho _ (by simp)) tbl36 ?_
 have c1 := named_spec (orc := orc) (ho _ (by simp)) ht c.name
 have c2 := sname_spec (orc := orc) (ho _ (by simp)) c.suit
 have c3 := word_spec (orc := orc) (ho _ (by simp)) c.kind
 have c4 := cwithin_spec (orc := orc) (ho _ (by simp)) c.cost 10
 have c5 := cwithin_spec (orc := orc) (ho _ (by simp)) c.power 99
 have c6 := cwithin_spec (orc := orc) (ho _ (by simp)) c.health 99
 have c7 := tcheck_spec (orc := orc) (ho _ (by simp)) c.traits
 unfold faceE Crd.cells
 clear ho ht
 generalize Ef.isName c.name = b1 at *
 generalize e2 : decide (snm c.suit = []) = b2 at *
 generalize e3 : decide (wrd c.kind = []) = b3 at *
 generalize wiB c.cost 10 = b4 at *
 generalize wiB c.power 99 = b5 at *
 generalize wiB c.health 99 = b6 at *
 generalize e7 : (c.kind == 1) = b7 at *
 generalize e8 : (c.health == 0) = b8 at *
 generalize e9 : (c.power != 0) = b9 at *
 generalize e10 : (c.health != 0) = b10 at *
 generalize tcB c.traits = b11 at *
 generalize e12 : (c.kind == 2) = b12 at *
 generalize c.token = b14 at *
 generalize e13 : decide (4 < (n : Int)) = b13 at *
 refine GD ?_
 have fct := Fj @c1 (Fj @c2 (Fj @c3 (Fj @c4 (Fj @c5 (Fj @c6 (Fj @c7 (Fj @e2 (Fj @e3 (Fj @e7 (Fj @e8 (Fj @e9 (Fj @e10 (Fj @e12 (Fj @e13 fsAstr))))))))))))))
 cases b1 with
 | true =>
   cases b2 with
   | true =>
     refine GO ?_
     (refine A_end ?_; try exact trivial)
     all_goals rfl
   | false =>
     cases b3 with
     | true =>
       refine GO ?_
       (refine A_end ?_; try exact trivial)
       all_goals rfl
     | false =>
       cases b4 with
       | true =>
         cases b5 with
         | true =>
           cases b6 with
           | true =>
             cases b7 with
             | true =>
               cases b8 with
               | true =>
                 refine GO ?_
                 (refine A_end ?_; try exact trivial)
                 all_goals rfl
               | false =>
                 cases b11 with
                 | true =>
                   cases b12 with
                   | true =>
                     cases b14 with
                     | true =>
                       refine GO ?_
                       (refine A_end ?_; try exact trivial)
                       all_goals rfl
                     | false =>
                       cases b13 with
                       | true =>
                         refine GO ?_
                         (refine A_end ?_; try exact trivial)
                         all_goals rfl
                       | false =>
                         refine GO ?_
                         (refine A_end ?_; try exact trivial)
                         all_goals rfl
                   | false =>
                     cases b13 with
                     | true =>
                       refine GO ?_
                       (refine A_end ?_; try exact trivial)
                       all_goals rfl
                     | false =>
                       refine GO ?_
                       (refine A_end ?_; try exact trivial)
                       all_goals rfl
                 | false =>
                   refine GO ?_
                   (refine A_end ?_; try exact trivial)
                   all_goals rfl
             | false =>
               cases b9 with
               | true =>
                 refine GO ?_
                 (refine A_end ?_; try exact trivial)
                 all_goals rfl
               | false =>
                 cases b10 with
                 | true =>
                   refine GO ?_
                   (refine A_end ?_; try exact trivial)
                   all_goals rfl
                 | false =>
                   cases b11 with
                   | true =>
                     cases b12 with
                     | true =>
                       cases b14 with
                       | true =>
                         refine GO ?_
                         (refine A_end ?_; try exact trivial)
                         all_goals rfl
                       | false =>
                         cases b13 with
                         | true =>
                           refine GO ?_
                           (refine A_end ?_; try exact trivial)
                           all_goals rfl
                         | false =>
                           refine GO ?_
                           (refine A_end ?_; try exact trivial)
                           all_goals rfl
                     | false =>
                       cases b13 with
                       | true =>
                         refine GO ?_
                         (refine A_end ?_; try exact trivial)
                         all_goals rfl
                       | false =>
                         refine GO ?_
                         (refine A_end ?_; try exact trivial)
                         all_goals rfl
                   | false =>
                     refine GO ?_
                     (refine A_end ?_; try exact trivial)
                     all_goals rfl
           | false =>
             refine GO ?_
             (refine A_end ?_; try exact trivial)
             all_goals rfl
         | false =>
           refine GO ?_
           (refine A_end ?_; try exact trivial)
           all_goals rfl
       | false =>
         refine GO ?_
         (refine A_end ?_; try exact trivial)
         all_goals rfl
 | false =>
   refine GO ?_
   (refine A_end ?_; try exact trivial)
   all_goals rfl
end Go.Proofs.Cards
