/- The reference's check of a card: names, bounds, traits. -/
import Derived.Test.YtlppecefalblmaaGreatDoorFz05
import Derived.Test.YtlppecefalblmaaGreatDoorZtCdList
import Derived.Test.YtlppecefalblmaaGreatDoorZtEfRPrint
import Derived.Test.YtlppecefalblmaaGreatDoorZtCdRow
namespace Go.Proofs.Cards
set_option maxRecDepth 100000
set_option maxHeartbeats 32000000
open Go Go.Fs
set_option linter.unusedSimpArgs false
set_option linter.unusedVariables false
variable {orc : Orc}
def cf52 : CF := ⟨39, [(.tmp 2)], (.seq (.region [Zo 2 (.mv (.c (.bool false)))]) (.seq (.seq (.region [Zm 4 0, Zo 5 (.lenS (.t 4)), Zb 6 .lss (.t 5) (.c (.int .i64 1)), Zm 7 6, Zg 8 (.mv (.t 0)) 7 false, Zg 9 (.lenS (.t 8)) 7 false, Zg 10 (.bin .gtr .other (.t 9) (.c (.int .i64 20))) 7 false, Zo 11 (.pick (.t 7) (.c (.bool true)) (.t 10)), Zm 12 11, Zg 13 (.mv (.t 0)) 12 false, Zg 14 (.idxS (.t 13) (.c (.int .i64 0))) 12 false, Zg 15 (.bin .eql .other (.t 14) (.c (.int .u8 45))) 12 false, Zo 16 (.pick (.t 12) (.c (.bool true)) (.t 15))]) (.cond (.t 16) (.seq (.region [Zo 2 (.mv (.c (.bool false)))]) .ret) .skip)) (.seq (.seq (.region [Zo 3 (.mv (.c (.int .i64 0)))]) (.block 0 (.loop (.seq (.seq (.region [Zm 17 3, Zm 18 0, Zo 19 (.lenS (.t 18)), Zb 20 .lss (.t 17) (.t 19)]) (.cond (.t 20) .skip (.exit 0))) (.seq (.block 1 (.seq (.region [Zm 23 0, Zm 24 3, Zo 25 (.idxS (.t 23) (.t 24)), Zb 26 .neq (.t 25) (.c (.int .u8 45)), Zm 27 26, Zg 28 (.mv (.t 0)) 27 true, Zg 29 (.mv (.t 3)) 27 true, Zg 30 (.idxS (.t 28) (.t 29)) 27 true, Zg 31 (.bin .lss .other (.t 30) (.c (.int .u8 97))) 27 true, Zg 32 (.mv (.t 31)) 27 true, Zg 33 (.mv (.t 0)) 32 false, Zg 34 (.mv (.t 3)) 32 false, Zg 35 (.idxS (.t 33) (.t 34)) 32 false, Zg 36 (.bin .gtr .other (.t 35) (.c (.int .u8 122))) 32 false, Zg 37 (.pick (.t 32) (.c (.bool true)) (.t 36)) 27 true, Zo 38 (.pick (.t 27) (.t 37) (.c (.bool false)))]) (.cond (.t 38) (.seq (.region [Zo 2 (.mv (.c (.bool false)))]) .ret) .skip))) (.region [Zm 21 3, Zb 22 .add (.t 21) (.c (.int .i64 1)), Zm 3 22])))))) (.seq (.region [Zo 2 (.mv (.c (.bool true)))]) .ret))))⟩
def cf53 : CF := ⟨15, [(.tmp 6)], (.seq (.region [Zo 6 (.mv (.c (.bool false)))]) (.seq (.region [Zm 7 0, Zm 8 1, Zb 9 .geq (.t 7) (.t 8), Zm 10 9, Zg 11 (.mv (.t 0)) 10 true, Zg 12 (.mv (.t 2)) 10 true, Zg 13 (.bin .leq .other (.t 11) (.t 12)) 10 true, Zo 14 (.pick (.t 10) (.t 13) (.c (.bool false))), Zm 6 14]) .ret))⟩
def cf54 : CF := ⟨5, [(.tmp 2)], (.seq (.region [Zo 2 (.mv (.c (.bool false)))]) (.seq (.region [Zm 3 0, Zb 4 .lss (.t 3) (.c (.int .u16 256)), Zm 2 4]) .ret))⟩
def cf49 : CF := ⟨17, [(.tmp 2)], (.seq (.region [Zo 2 (.mv (.c (.slice none 0 (.exact 0))))]) (.seq (.region [Zo 3 (.mv (.c (.slice none 0 (.exact 0))))]) (.seq (.seq (.region [Zo 4 (.mv (.c (.int .u8 1)))]) (.block 0 (.loop (.seq (.seq (.region [Zm 5 4, Zb 6 .leq (.t 5) (.c (.int .u8 8))]) (.cond (.t 6) .skip (.exit 0))) (.seq (.block 1 (.seq (.region [Zm 9 0, Zm 10 4, Zo 11 (.call (.f 104) [(.t 9), (.t 10)])]) (.cond (.t 11) (.region [Zm 12 3, Zm 13 4, Zo 14 (.litS 1 1 [(.int .u8 0)] [(0, (1, (.t 13)))]), Zo 15 (.appendT 76 1 1 (.t 12) (.t 14)), Zm 3 15]) .skip))) (.region [Zm 7 4, Zb 8 .add (.t 7) (.c (.int .u8 1)), Zm 4 8])))))) (.seq (.region [Zm 16 3, Zm 2 16]) .ret))))⟩
def cf104 : CF := ⟨10, [(.tmp 4)], (.seq (.region [Zo 4 (.mv (.c (.bool false)))]) (.seq (.region [Zm 5 0, Zm 6 1, Zo 7 (.call (.f 139) [(.t 6)]), Zb 8 .and (.t 5) (.t 7), Zb 9 .neq (.t 8) (.c (.int .u16 0)), Zm 4 9]) .ret))⟩
def cf139 : CF := ⟨12, [(.tmp 2)], (.seq (.region [Zo 2 (.mv (.c (.int .u16 0)))]) (.seq (.seq (.region [Zm 3 0, Zb 4 .lss (.t 3) (.c (.int .u8 1)), Zm 5 4, Zg 6 (.mv (.t 0)) 5 false, Zg 7 (.bin .gtr .other (.t 6) (.c (.int .u8 8))) 5 false, Zo 8 (.pick (.t 5) (.c (.bool true)) (.t 7))]) (.cond (.t 8) (.seq (.region [Zo 2 (.mv (.c (.int .u16 0)))]) .ret) .skip)) (.seq (.region [Zm 9 0, Zb 10 .sub (.t 9) (.c (.int .u8 1)), Zb 11 .shl (.c (.int .u16 1)) (.t 10), Zm 2 11]) .ret)))⟩
theorem tbl52 : tbl Tryz.prog 52 = some cf52 := by kernel_rfl
theorem tbl53 : tbl Tryz.prog 53 = some cf53 := by kernel_rfl
theorem tbl54 : tbl Tryz.prog 54 = some cf54 := by kernel_rfl
theorem tbl49 : tbl Tryz.prog 49 = some cf49 := by kernel_rfl
theorem tbl104 : tbl Tryz.prog 104 = some cf104 := by kernel_rfl
theorem tbl139 : tbl Tryz.prog 139 = some cf139 := by kernel_rfl
theorem bad_byte2 (b : UInt8) : (((b.toNat : Int) != 45) && (decide ((b.toNat : Int) < 97) || decide ((122 : Int) < (b.toNat : Int)))) = !Ef.cutset.contains b := by
 rw [Bool.and_comm]; exact Ef.bad_byte b
structure NaI (s : List UInt8) (h0 : AH) (n : Nat) (tm : List AV) (h : AH) : Prop where
 len : tm.length = 39
 t0 : tm.getD 0 AV.undef = .str s
 hp : h = h0.withLow h0.n
 st : ∃ i : Nat, n = s.length - i ∧ i ≤ s.length ∧ tm.getD 3 AV.undef = .int .i64 (i : Int) ∧ Ef.allC (s.take i) = true
theorem namemay_spec (ho : orc 52 = none) (s : List UInt8) (h : AH) : acall orc T 52 [.str s] h = some (.bool (Ef.isName s), h) := by
 refine acall_sym ho tbl52 ?_
 cases s with
 | nil =>
   refine GD ?_
   have l1 : decide (((0 : Nat) : Int) < 1) = true := by decide
   have hE : Ef.isName [] = false := rfl
   rw [hE]
   (have fct := @l1; refine GO ?_; clear fct)
   (have fct := trivial; refine A_end ?_; clear fct; try exact trivial)
 | cons b s =>
   have l1 : decide (((s.length + 1 : Nat) : Int) < 1) = false := by rw [decide_eq_false_iff_not]; omega
   by_cases hl : s.length + 1 ≤ 20
   · have l2 : decide ((20 : Int) < ((s.length + 1 : Nat) : Int)) = false := by rw [decide_eq_false_iff_not]; omega
     cases hb0 : ((b.toNat : Int) != 45) with
     | false =>
       have hb1 : ((b.toNat : Int) == 45) = true := by rw [bne, Bool.not_eq_false'] at hb0; exact hb0
       have hE : Ef.isName (b :: s) = false := by simp only [Ef.isName, List.headD_cons, hb0, Bool.and_false, Bool.false_and]
       rw [hE]
       refine GD ?_
       (have fct := Fj @l1 (Fj @l2 (Fj @Ef.op_idxS (Fj @Ef.idxSV_zero @hb1))); refine GO ?_; clear fct)
       (have fct := trivial; refine A_end ?_; clear fct; try exact trivial)
     | true =>
       have hb1 : ((b.toNat : Int) == 45) = false := by rw [bne, Bool.not_eq_true'] at hb0; exact hb0
       rw [Ef.isName_cons hl hb0]
       refine GD ?_
       (have fct := Fj @l1 (Fj @l2 (Fj @Ef.op_idxS (Fj @Ef.idxSV_zero @hb1))); refine GO ?_; clear fct)
       have hlen : (b :: s).length ≤ 20 := by simpa using hl
       generalize hS : b :: s = S at *
       refine CodeK_loop (NaI S h) S.length ?_ ?_
       · exact ⟨rfl, rfl, rfl, 0, rfl, Nat.zero_le _, rfl, rfl⟩
       clear hS l1 l2 hb0 hb1 hl
       intro n tm h' I
       obtain ⟨i, hn, hi, e3, ha⟩ := I.st
       have el := I.len
       have e0 := I.t0
       obtain rfl := I.hp
       by_cases hlt : i < S.length
       case neg =>
        obtain rfl : i = S.length := by omega
        have l1 : decide (((S.length : Nat) : Int) < ((S.length : Nat) : Int)) = false := by rw [decide_eq_false_iff_not]; omega
        rw [List.take_length] at ha
        rw [ha]
        (have fct := Fj @el (Fj @e0 (Fj @e3 @l1)); refine GO ?_; clear fct)
        (have fct := @el; refine A_end ?_; clear fct; try exact trivial)
       case pos =>
        have l1 : decide (((i : Nat) : Int) < ((S.length : Nat) : Int)) = true := by rw [decide_eq_true_eq]; omega
        have w1 : IntKind.wrap .i64 ((i : Int) + 1) = ((i + 1 : Nat) : Int) := by rw [wrap_i64 (by omega) (by omega)]; omega
        obtain ⟨x, hx⟩ : ∃ x, S[i]? = some x := ⟨_, List.getElem?_eq_getElem hlt⟩
        have c1 := fun h => Ef.idxSV_nat hx .i64 h
        have hbb : Ef.cutset.contains x = !(((x.toNat : Int) != 45) && (decide ((x.toNat : Int) < 97) || decide ((122 : Int) < (x.toNat : Int)))) := by rw [bad_byte2, Bool.not_not]
        cases hA : decide ((x.toNat : Int) < 97) <;> cases hB : decide ((122 : Int) < (x.toNat : Int)) <;> cases hC : ((x.toNat : Int) != 45)
        all_goals (
         rw [hA, hB, hC] at hbb
         simp only [Bool.or_false, Bool.or_true, Bool.and_true, Bool.and_false, Bool.not_true, Bool.not_false] at hbb
         first
         | (have hp : Ef.cutset.contains x = true := hbb
            clear hbb
            (have fct := Fj @el (Fj @e0 (Fj @e3 (Fj @l1 (Fj @w1 (Fj @Ef.op_idxS (Fj @c1 (Fj @hA (Fj @hB @hC)))))))); refine GO ?_; clear fct)
            exact ⟨S.length - (i + 1), by omega, by simp only [List.length_set, el], by simp only [fsTm, Nat.reduceBEq, Nat.reduceLT, el, e0], rfl, i + 1, rfl, by omega, by simp only [fsTm, Nat.reduceBEq, Nat.reduceLT, el], Ef.all_take_succ hx hp ha⟩)
         | (have hp : Ef.cutset.contains x = false := hbb
            clear hbb
            rw [Ef.all_take_false hx hp]
            (have fct := Fj @el (Fj @e0 (Fj @e3 (Fj @l1 (Fj @w1 (Fj @Ef.op_idxS (Fj @c1 (Fj @hA (Fj @hB @hC)))))))); refine GO ?_; clear fct)
            (have fct := @el; refine A_end ?_; clear fct; try exact trivial)))
   · have l2 : decide ((20 : Int) < ((s.length + 1 : Nat) : Int)) = true := by rw [decide_eq_true_eq]; omega
     have hE : Ef.isName (b :: s) = false := by
      have e2 : decide ((b :: s).length ≤ 20) = false := by simpa using hl
      rw [Ef.isName, e2, Bool.and_false, Bool.false_and, Bool.false_and]
     rw [hE]
     refine GD ?_
     (have fct := Fj @l1 @l2; refine GO ?_; clear fct)
     (have fct := trivial; refine A_end ?_; clear fct; try exact trivial)
def wlB (n lo hi : Int) : Bool := decide (lo ≤ n) && decide (n ≤ hi)
theorem rwi_spec (ho : orc 53 = none) (n lo hi : Int) (h : AH) : acall orc T 53 [.int .i64 n, .int .i64 lo, .int .i64 hi] h = some (.bool (wlB n lo hi), h) := by
 refine acall_sym ho tbl53 ?_
 unfold wlB
 refine GD ?_
 cases h1 : decide (lo ≤ n) with
 | true =>
   (have fct := @h1; refine GO ?_; clear fct)
   (have fct := @Bool.true_and; refine A_end ?_; clear fct; try exact trivial)
 | false =>
   (have fct := @h1; refine GO ?_; clear fct)
   (have fct := @Bool.false_and; refine A_end ?_; clear fct; try exact trivial)
theorem rtcheck_spec (ho : orc 54 = none) (t : Int) (h0 : 0 ≤ t) (h1 : t ≤ 65535) (h : AH) : acall orc T 54 [.int .u16 t] h = some (.bool (tcB t), h) := by
 refine acall_sym ho tbl54 ?_
 have e : decide (t < 256) = tcB t := by
  unfold tcB
  rw [Bool.eq_iff_iff, decide_eq_true_eq, beq_iff_eq, Int.fdiv_eq_ediv_of_nonneg _ (by decide)]
  omega
 refine GD ?_
 (have fct := @e; refine GO ?_; clear fct)
 (have fct := trivial; refine A_end ?_; clear fct; try exact trivial)
theorem rtbit_spec (ho : orc 139 = none) (t : Int) (h1 : 1 ≤ t) (h8 : t ≤ 8) (h : AH) : acall orc T 139 [.int .u8 t] h = some (.int .u16 (bitT t), h) := by
 refine acall_sym ho tbl139 ?_
 have e2 : IntKind.wrap .u8 (t - 1) = t - 1 := by
  have : t = 1 ∨ t = 2 ∨ t = 3 ∨ t = 4 ∨ t = 5 ∨ t = 6 ∨ t = 7 ∨ t = 8 := by omega
  rcases this with rfl | rfl | rfl | rfl | rfl | rfl | rfl | rfl <;> decide
 have e3 : ashift .shl .u16 1 (t - 1) = some (.int .u16 (bitT t)) := by
  have : t = 1 ∨ t = 2 ∨ t = 3 ∨ t = 4 ∨ t = 5 ∨ t = 6 ∨ t = 7 ∨ t = 8 := by omega
  rcases this with rfl | rfl | rfl | rfl | rfl | rfl | rfl | rfl <;> rfl
 have l1 : decide (t < 1) = false := by rw [decide_eq_false_iff_not]; omega
 have l2 : decide ((8 : Int) < t) = false := by rw [decide_eq_false_iff_not]; omega
 refine GD ?_
 (have fct := Fj @l1 (Fj @l2 (Fj @e2 @e3)); refine GO ?_; clear fct)
 (have fct := trivial; refine A_end ?_; clear fct; try exact trivial)
theorem rthas_spec (ho : ∀ f, f ∈ [104, 139] → orc f = none) (s t : Int) (h1 : 1 ≤ t) (h8 : t ≤ 8) (h : AH) : acall orc T 104 [.int .u16 s, .int .u8 t] h = some (.bool (hasT s t), h) := by
 refine acall_sym (ho _ (by simp)) tbl104 ?_
 have c1 := rtbit_spec (orc := orc) (ho _ (by simp)) t h1 h8
 refine GD ?_
 (have fct := @c1; refine GO ?_; clear fct)
 (have fct := @hasT.eq_1; refine A_end ?_; clear fct; try exact trivial)
theorem rtlist_spec (N : Nat) (ho : ∀ f, f ∈ [49, 104, 139] → orc f = none) (s : Int) {h : AH} (hN : N < h.n) : ∃ v1 h1, acall orc T 49 [.int .u16 s] h = some (v1, h1) ∧ ((v1 = .slice none 0 (.exact 0) ∧ lst s 8 = [] ∨ ∃ b cap, v1 = .slice (some (b, 0)) (lst s 8).length cap ∧ h1.get b = some (.cells (ints (lst s 8)) false) ∧ h.n ≤ b ∧ b < h1.n) ∧ Ef.Kp N h h1) := by
 refine acall_facts (R := fun v1 h1 => (v1 = .slice none 0 (.exact 0) ∧ lst s 8 = [] ∨ ∃ b cap, v1 = .slice (some (b, 0)) (lst s 8).length cap ∧ h1.get b = some (.cells (ints (lst s 8)) false) ∧ h.n ≤ b ∧ b < h1.n) ∧ Ef.Kp N h h1) (ho _ (by simp)) tbl49 ?_
 simp only [Ef.settle_fst1]
 obtain ⟨M, hM⟩ : ∃ M, h.n = M + 1 := ⟨h.n - 1, by omega⟩
 have cH := fun (t : Int) (h1 : 1 ≤ t) (h8 : t ≤ 8) => rthas_spec (orc := orc) (fun f hf => ho f (by revert hf; simp only [List.mem_cons, List.mem_nil_iff, or_false]; intro hf; omega)) s t h1 h8
 refine GD ?_
 (have fct := @op_mv; refine GO ?_; clear fct)
 refine CodeK_loop (TlI s M h) 8 ?_ ?_
 · exact ⟨rfl, rfl, ⟨0, _, rfl, by omega, rfl, rfl, .inl ⟨by simp [ints, lst], rfl⟩⟩, fun b hb => rfl, by simp; omega, by simp⟩
 intro n tm H I
 obtain ⟨i, v, hn, hi, e4, e3, hR⟩ := I.st
 have el := I.len
 have e0 := I.t0
 have hfr := I.fr
 have hlo := I.low
 have hHn := I.hn
 clear I
 by_cases hlt : i < 8
 case neg =>
  obtain rfl : i = 8 := by omega
  have l1 : decide (((8 : Nat) : Int) + 1 ≤ 8) = false := by decide
  rcases hR with ⟨k1, rfl⟩ | ⟨b, cap, k1, k2, k3, rfl, k5, k6⟩
  · have kz : lst s 8 = [] := by simpa [ints] using k1
    (have fct := Fj @el (Fj @e0 (Fj @e3 (Fj @e4 @l1))); refine GO ?_; clear fct)
    refine ⟨.inr rfl, .slice none 0 (.exact 0), by simp only [resAll, resOne, el, e3, fsTm, Nat.reduceBEq, Nat.reduceLT], .inl ⟨rfl, kz⟩, Ef.kp_settle2 hHn (fun b' hb' => hfr b' (by omega)) (by omega)⟩
  · (have fct := Fj @el (Fj @e0 (Fj @e3 (Fj @e4 @l1))); refine GO ?_; clear fct)
    have hv : AV.under h.n (AV.slice (some (b, 0)) (ints (lst s 8)).length cap) = false := by simp [AV.under]; omega
    refine ⟨.inr rfl, .slice (some (b, 0)) (ints (lst s 8)).length cap, by simp only [resAll, resOne, el, e3, fsTm, Nat.reduceBEq, Nat.reduceLT], .inr ⟨b, cap, by simp [ints], ?_, by omega, ?_⟩, Ef.kp_settle2 hHn (fun b' hb' => hfr b' (by omega)) (by omega)⟩
    · rw [Ef.get_settle hv]; exact k5
    · rw [Ef.n_settle hv]; exact k2
 case pos =>
 have l1 : decide ((i : Int) + 1 ≤ 8) = true := by rw [decide_eq_true_eq]; omega
 have w1 := Ef.wrap_u8a (n := i) (by omega)
 have ch := cH ((i : Int) + 1) (by omega) (by omega)
 cases hq : hasT s ((i : Int) + 1) with
 | false =>
   have hs : lst s (i + 1) = lst s i := by rw [lst_succ, hq]; simp
   rw [hq] at ch
   (have fct := Fj @el (Fj @e0 (Fj @e3 (Fj @e4 (Fj @l1 (Fj @ch @w1))))); refine GO ?_; clear fct)
   exact ⟨8 - (i + 1), by omega, by simp only [List.length_set, el], by simp only [fsTm, Nat.reduceBEq, Nat.reduceLT, el, e0], ⟨i + 1, v, rfl, by omega, by simp only [fsTm, Nat.reduceBEq, Nat.reduceLT, el], by simp only [fsTm, Nat.reduceBEq, Nat.reduceLT, el, e3], by rw [hs]; exact hR⟩, hfr, hlo, hHn⟩
 | true =>
   have hs : ints (lst s (i + 1)) = ints (lst s i) ++ [.int .u8 ((i : Int) + 1)] := by rw [lst_succ, hq]; simp [ints]
   have hll := lst_len s i
   rw [hq] at ch
   (have fct := Fj @el (Fj @e0 (Fj @e3 (Fj @e4 (Fj @l1 (Fj @ch (Fj @op_litS (Fj fsReps @Fs.over.eq_1))))))); refine GO ?_; clear fct)
   obtain ⟨v', H', e, row, hn', hf', lo', _, _⟩ := app_cells (by' := 1) (xs := [.int .u8 ((i : Int) + 1)]) (hR.push (.cells [.int .u8 ((i : Int) + 1)] false)) (by simp; omega) (by simp [ints]; omega) (by simp [ints]; omega) (by simp) rfl (Hp.get_push_self _ _)
   simp only [List.length_cons, List.length_nil, Nat.zero_add, Hp.n_push, Hp.low_push] at e hn' lo'
   refine R_cons (v := v') (h' := noteT (typed (H.push (.cells [.int .u8 ((i : Int) + 1)] false)) 76 v) 76 (H.n + 1) H') (by simp only [op_appendT, CA.ev, el, e0, e3, e4, fsTm, Nat.reduceBEq, Nat.reduceLT]; rw [e]; rfl) (by simp only [put, List.set_cons_succ, List.set_cons_zero]; (first | done | with_reducible rfl)) ?_
   (have fct := Fj @el (Fj @e0 (Fj @e3 (Fj @e4 @w1))); refine GO ?_; clear fct)
   refine ⟨8 - (i + 1), by omega, by simp only [List.length_set, el], by simp only [fsTm, Nat.reduceBEq, Nat.reduceLT, el, e0], ⟨i + 1, v', rfl, by omega, by simp only [fsTm, Nat.reduceBEq, Nat.reduceLT, el], by simp only [fsTm, Nat.reduceBEq, Nat.reduceLT, el], .inr ?_⟩, fun b hb => ?_, by rw [note_low]; exact lo' hlo, ?_⟩
   · rw [hs]; exact row.note _ _ _
   · rw [note_get _ _ _ _ (by omega), hf' b hb, Hp.get_push_ne _ _ _ (by omega)]; exact hfr b hb
   · have := note_n (typed (H.push (.cells [.int .u8 ((i : Int) + 1)] false)) 76 v) 76 (H.n + 1) H'; omega
end Go.Proofs.Cards
