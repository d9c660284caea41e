/- The reference's print of a part. -/
import Derived.Test.YtlppecefalblmaaGreatDoorFz05
import Derived.Test.YtlppecefalblmaaGreatDoorZtEfPrint
import Derived.Test.YtlppecefalblmaaGreatDoorZtEfRef
import Derived.Test.YtlppecefalblmaaGreatDoorFz05
import Derived.Lib.Join
import Derived.Lib.Fields
namespace Go.Proofs.Ef
set_option maxRecDepth 100000
set_option maxHeartbeats 32000000
open Go Go.Fs
set_option linter.unusedSimpArgs false
set_option linter.unusedVariables false
variable {orc : Orc}
theorem rprint_spec (ho : ∀ f, f ∈ [51, 106, 107, 108, 55, 109, 141, 111, 112, 113, 114, 115, 116] → orc f = none) {h0 : AH} (hT : Told orc h0) (w v m c s t k : Int) (nm : List UInt8) (hs : 0 ≤ s ∧ s ≤ 255) (ht : 0 ≤ t ∧ t ≤ 255) (hk : 0 ≤ k ∧ k ≤ 255) {h : AH} (hg : Grown h0 h) :
    acall orc T 51 [.agg (part w v m c s t k nm)] h = some (.tuple [.str (txtP w v m c s t k nm), .int .i64 (chk w v m c s t k nm)], h) := by
 refine acall_sym (ho _ (by simp)) tbl51 ?_
 have c1 := rcheck_spec (orc := orc) (fun f hf => ho f (by revert hf; simp only [List.mem_cons, List.mem_nil_iff, or_false]; intro hf; omega)) w v m c s t k nm hs ht hk
 clear hs ht hk
 by_cases hc : chk w v m c s t k nm = 0
 case neg =>
  have eT : txtP w v m c s t k nm = [] := by unfold txtP; rw [if_neg hc]
  have e1 : (chk w v m c s t k nm != 0) = true := by simpa using hc
  rw [eT]
  clear hT eT hc
  generalize chk w v m c s t k nm = X at *
  unfold part at c1 ⊢
  refine GD ?_
  (have fct := Fj @c1 @e1; (repeat' first | refine A_walk ?_ | exact trivial | refine GuardK_split (fun hb => ?_) (fun hb => ?_) | refine CondK_split (fun hb => ?_) (fun hb => ?_) | refine CodeK_regionD _ ?_ | refine DGuardK_split (fun hb => ?_) (fun hb => ?_)); all_goals try clear fct)
 case pos =>
 have eT : txtP w v m c s t k nm = T5 (w - 1).toNat (v - 1).toNat (m - 1).toNat v m c s t k nm := by unfold txtP; rw [if_pos hc]
 obtain ⟨hb, hC, hS, hU, hM, hN⟩ := chk_zero hc
 obtain ⟨i, hi, ew⟩ : ∃ i : Nat, i < 6 ∧ w = (i : Int) + 1 := ⟨(w - 1).toNat, by omega, by omega⟩
 obtain ⟨j, hj, ev⟩ : ∃ j : Nat, j < 19 ∧ v = (j : Int) + 1 := ⟨(v - 1).toNat, by omega, by omega⟩
 obtain ⟨l, hl, em⟩ : ∃ l : Nat, l < 10 ∧ m = (l : Int) + 1 := ⟨(m - 1).toNat, by omega, by omega⟩
 rw [eT, show (w - 1).toNat = i by omega, show (v - 1).toNat = j by omega, show (m - 1).toNat = l by omega, hc]
 rw [hc] at c1
 clear eT hb hc
 have w1 : IntKind.wrap .u8 (w - 1) = (i : Int) := by rw [ew]; exact wrap_u8m (by omega)
 have w2 : IntKind.wrap .u8 (v - 1) = (j : Int) := by rw [ev]; exact wrap_u8m (by omega)
 have w3 : IntKind.wrap .u8 (m - 1) = (l : Int) := by rw [em]; exact wrap_u8m (by omega)
 clear ew ev em
 have c2 := ruses_spec (orc := orc) (ho _ (by simp)) (ho _ (by simp)) v m
 obtain ⟨B1, hB1⟩ : ∃ B, AV.bool (uC v) = B := ⟨_, rfl⟩
 obtain ⟨B2, hB2⟩ : ∃ B, AV.bool (uS v m) = B := ⟨_, rfl⟩
 obtain ⟨B3, hB3⟩ : ∃ B, AV.bool (uT v m) = B := ⟨_, rfl⟩
 obtain ⟨B4, hB4⟩ : ∃ B, AV.bool (uM v) = B := ⟨_, rfl⟩
 obtain ⟨B5, hB5⟩ : ∃ B, AV.bool (uN v) = B := ⟨_, rfl⟩
 rw [hB1, hB2, hB3, hB4, hB5] at c2
 have KEEP : Hidden ((uC v = true → -99 ≤ c ∧ c ≤ 99) ∧ (uS v m = true → 1 ≤ s ∧ s ≤ 6) ∧ (uT v m = true → 1 ≤ t ∧ t ≤ 8) ∧ (uM v = true → 1 ≤ k ∧ k ≤ 4) ∧ (uN v = true → nm.length ≤ 20)) := ⟨hC, hS, hU, hM, hN⟩
 have KB : Hidden (AV.bool (uC v) = B1 ∧ AV.bool (uS v m) = B2 ∧ AV.bool (uT v m) = B3 ∧ AV.bool (uM v) = B4 ∧ AV.bool (uN v) = B5) := ⟨hB1, hB2, hB3, hB4, hB5⟩
 have KW : Hidden (uM v = true → IntKind.wrap .i64 k = k) := ⟨fun hb => wrap_byte (by have := (hM hb).1; omega) (by have := (hM hb).2; omega)⟩
 clear hC hS hU hM hN hB1 hB2 hB3 hB4 hB5
 obtain ⟨pc, hpc⟩ : ∃ pc, part w v m c s t k nm = pc := ⟨_, rfl⟩
 have KP : Hidden (part w v m c s t k nm = pc) := ⟨hpc⟩
 clear hpc
 have KT : Hidden (Told orc h0 ∧ Grown h0 h) := ⟨hT, hg⟩
 clear hT hg
 unfold part at c1 ⊢
 unfold T5
 refine GD ?_
 (have fct := @c1; (repeat' first | refine A_walk ?_ | exact trivial | refine GuardK_split (fun hb => ?_) (fun hb => ?_) | refine CondK_split (fun hb => ?_) (fun hb => ?_) | refine CodeK_regionD _ ?_ | refine DGuardK_split (fun hb => ?_) (fun hb => ?_)); all_goals try clear fct)
 refine DResK_ex (rwhens_spec h.n (ho _ (by simp)) _) fun v1 H1 hL => ?_
 obtain ⟨b1, rfl, g1, n1, kp⟩ := hL
 have gp := kp.get h.n (by simp)
 rw [show (Hp.push (Hp.withLow h h.n) (Blk.cells [.int .u8 w, .int .u8 v, .int .u8 m, .int .i64 c, .int .u8 s, .int .u8 t, .int .u8 k, .str nm] false)).get h.n = some (Blk.cells [.int .u8 w, .int .u8 v, .int .u8 m, .int .i64 c, .int .u8 s, .int .u8 t, .int .u8 k, .str nm] false) from Hp.get_push_self _ _] at gp
 have lowH : h.n ≤ H1.low := kp.low (by simp) (by simp)
 have nH : h.n < H1.n := by have := kp.n; simp at this; omega
 have grH : Grown h0 H1 := Grown.kp ((KT.out.2.low _).push _) kp
 have K1 : Hidden (Grown h0 H1 ∧ h.n ≤ H1.low ∧ h.n < H1.n) := ⟨grH, lowH, nH⟩
 clear kp grH lowH nH
 have a1 := fun (hh : AH) => iaddrV_nat (h := hh) (esz := 1) (b := b1) (o := 0) (c := .exact 6) (k := .u8) hi
 have a2 := fun (hh : AH) (b : Nat) => iaddrV_nat (h := hh) (esz := 1) (b := b) (o := 0) (c := .exact 19) (k := .u8) hj
 have a3 := fun (hh : AH) (b : Nat) => iaddrV_nat (h := hh) (esz := 1) (b := b) (o := 0) (c := .exact 10) (k := .u8) hl
 have q1 := word_at (l := whenL) (i := i) hi
 have q2 := word_at (l := verbL) (i := j) hj
 have q3 := word_at (l := whomL) (i := l) hl
 have y1 := getD_len (l := whenL) (n := 10) (by decide) i
 have y2 := getD_len (l := verbL) (n := 10) (by decide) j
 have y3 := getD_len (l := whomL) (n := 10) (by decide) l
 have s1 : ((whenL.getD i []).length ≤ 9223372036854775806) = True := eq_true (by omega)
 have s2 : ((whenL.getD i [] ++ [32]).length + (verbL.getD j []).length ≤ 9223372036854775807) = True := eq_true (by simp only [List.length_append, List.length_cons, List.length_nil]; omega)
 have s3 : ((whenL.getD i [] ++ [32] ++ verbL.getD j []).length ≤ 9223372036854775806) = True := eq_true (by simp only [List.length_append, List.length_cons, List.length_nil]; omega)
 have s4 : ((whenL.getD i [] ++ [32] ++ verbL.getD j [] ++ [32]).length + (whomL.getD l []).length ≤ 9223372036854775807) = True := eq_true (by simp only [List.length_append, List.length_cons, List.length_nil]; omega)
 clear y1 y2 y3
 (have fct := Fj @w1 (Fj @a1 (Fj @q1 (Fj @g1 (Fj @gp (Fj @Nat.mul_one (Fj fsAstr @s1)))))); (repeat' first | refine A_walk ?_ | exact trivial | refine GuardK_split (fun hb => ?_) (fun hb => ?_) | refine CondK_split (fun hb => ?_) (fun hb => ?_) | refine CodeK_regionD _ ?_ | refine DGuardK_split (fun hb => ?_) (fun hb => ?_)); all_goals try clear fct)
 refine DResK_ex (rverbs_spec h.n (ho _ (by simp)) H1) fun v2 H2 hL => ?_
 obtain ⟨b2, rfl, g2, n2, kp2⟩ := hL
 have gp2 := kp2.get h.n K1.out.2.2
 rw [gp] at gp2
 have g12 := kp2.get b1 n1
 rw [g1] at g12
 have n12 : b1 < H2.n := Nat.lt_of_lt_of_le n1 kp2.n
 have K2 : Hidden (Grown h0 H2 ∧ h.n ≤ H2.low ∧ h.n < H2.n) := ⟨Grown.kp K1.out.1 kp2, kp2.low (Nat.le_of_lt K1.out.2.2) K1.out.2.1, Nat.lt_of_lt_of_le K1.out.2.2 kp2.n⟩
 clear kp2
 (have fct := Fj @w2 (Fj @a2 (Fj @q2 (Fj @g2 (Fj @gp2 (Fj @Nat.mul_one (Fj fsAstr (Fj @s2 @s3))))))); (repeat' first | refine A_walk ?_ | exact trivial | refine GuardK_split (fun hb => ?_) (fun hb => ?_) | refine CondK_split (fun hb => ?_) (fun hb => ?_) | refine CodeK_regionD _ ?_ | refine DGuardK_split (fun hb => ?_) (fun hb => ?_)); all_goals try clear fct)
 refine DResK_ex (rwhoms_spec h.n (ho _ (by simp)) H2) fun v3 H3 hL => ?_
 obtain ⟨b3, rfl, g3, n3, kp3⟩ := hL
 have gp3 := kp3.get h.n K2.out.2.2
 rw [gp2] at gp3
 have g13 := kp3.get b1 n12
 rw [g12] at g13
 have g23 := kp3.get b2 n2
 rw [g2] at g23
 have K3 : Hidden (Grown h0 H3 ∧ h.n ≤ H3.low ∧ h.n < H3.n) := ⟨Grown.kp K2.out.1 kp3, kp3.low (Nat.le_of_lt K2.out.2.2) K2.out.2.1, Nat.lt_of_lt_of_le K2.out.2.2 kp3.n⟩
 clear kp3
 repeat' first | (simp only [opsB, ctlB, Nat.reduceEqDiff, Nat.reduceBEq, Nat.reduceBNe, Int.reduceBEq, Int.reduceBNe, Int.reduceLT, Int.reduceLE, Int.reduceEq, CO.quiet, CO.reads, AV.one, AV.cells, CA.ev, abin, aint, aun, isShift, readVar, readCell, readCells, writeCells, fillA, reduceIte, Nat.reduceAdd, Nat.reduceSub, Nat.reduceLT, Nat.reduceLeDiff, resAll, resOne, AV.under, AV.unders, cut, put, DoneK, Kept, KeptOne, closeOp, w3, a3, q3, g3, gp3, Nat.mul_one, astr, s4, List.append_eq, List.drop, List.take, c2, *]) | (refine GuardK_split (fun hb => ?_) (fun hb => ?_)) | (refine CondK_split (fun hb => ?_) (fun hb => ?_)) | (refine CodeK_regionD _ ?_) | (refine DGuardK_split (fun hb => ?_) (fun hb => ?_))
 clear w1 w2 w3 a1 a2 a3 q1 q2 q3 g1 g2 g3 g12 g13 g23 n1 n2 n3 n12 s1 s2 s3 s4 c1 c2 gp gp2
 refine CondK_tm (RpI h0 pc h.n B2 B3 B4 B5 (T0 i j l)) ?_ (fun tm H I => ?_)
 · refine ⟨rfl, rfl, rfl, rfl, rfl, rfl, rfl, ?_, K3.out.1, K3.out.2.1, K3.out.2.2⟩
   rw [gp3, ← KP.out]
   rfl
 clear gp3 K1 K2 K3 hi hj hl
 clear b1 b2 b3 H1 H2 H3
 rw [← KB.out.1]
 refine CondK_mid (RpI h0 pc h.n B2 B3 B4 B5 (T0 i j l ++ optT (uC v) (dig c))) (fun hb => ?_) (fun hb => ?_) (fun tm' H' I' => ?_)
 · have eL : T0 i j l ++ optT (uC v) (dig c) = (T0 i j l) ++ [32] ++ (dig c) := by rw [show optT (uC v) (dig c) = 32 :: (dig c) from if_pos hb]; simp only [List.append_assoc, List.cons_append, List.nil_append]
   rw [eL]
   have hh := KEEP.out.1 hb
   clear eL hb
   have el := I.len
   have e1 := I.t1
   have e7 := I.t7
   have e8 := I.t8
   have e9 := I.t9
   have e10 := I.t10
   have e5 := I.t5
   have gb := I.box
   rw [← KP.out] at gb
   unfold part at gb
   obtain ⟨X, hX⟩ : ∃ X, T0 i j l = X := ⟨_, rfl⟩
   have hXl : X.length ≤ 1000 := by
    rw [← hX]
    have l0 := T0_len i j l
    have l1 := optT_len (uC v) (dig c) fun _ => dig_len c
    have l2 := optT_len (uS v m) (sN s) fun _ => sN_len s
    have l3 := optT_len (uT v m) (tN t) fun _ => tN_len t
    have l4 := optT_len (uM v) (dig k) fun _ => dig_len k
    try simp only [List.length_append]
    omega
   rw [hX] at e5 ⊢
   have hx := dig_len c
   have s1 : (X.length ≤ 9223372036854775806) = True := eq_true (by omega)
   have s2 : ((X ++ [32]).length + (dig c).length ≤ 9223372036854775807) = True := eq_true (by simp only [List.length_append, List.length_cons, List.length_nil]; omega)
   have KI : Hidden (Grown h0 H ∧ h.n ≤ H.low ∧ h.n < H.n) := ⟨I.gr, I.low, I.n⟩
   clear hX hXl hx
   (have fct := Fj @el (Fj @e1 (Fj @e5 (Fj @gb (Fj fsAstr @s1)))); (repeat' first | refine A_walk ?_ | exact trivial | refine GuardK_split (fun hb => ?_) (fun hb => ?_) | refine CondK_split (fun hb => ?_) (fun hb => ?_) | refine CodeK_regionD _ ?_ | refine DGuardK_split (fun hb => ?_) (fun hb => ?_)); all_goals try clear fct)
   refine ResK_eq (KT.out.1.digits c _ I.gr hh.1 hh.2) ?_
   clear I hh
   (have fct := Fj @el (Fj @e1 (Fj @e5 (Fj fsAstr @s2))); (repeat' first | refine A_walk ?_ | exact trivial | refine GuardK_split (fun hb => ?_) (fun hb => ?_) | refine CondK_split (fun hb => ?_) (fun hb => ?_) | refine CodeK_regionD _ ?_ | refine DGuardK_split (fun hb => ?_) (fun hb => ?_)); all_goals try clear fct)
   refine ⟨by simp only [List.length_set, el], by simp only [fsTm, Nat.reduceBEq, Nat.reduceLT, el, e1], by simp only [fsTm, Nat.reduceBEq, Nat.reduceLT, el, e7], by simp only [fsTm, Nat.reduceBEq, Nat.reduceLT, el, e8], by simp only [fsTm, Nat.reduceBEq, Nat.reduceLT, el, e9], by simp only [fsTm, Nat.reduceBEq, Nat.reduceLT, el, e10], by simp only [fsTm, Nat.reduceBEq, Nat.reduceLT, el], ?_, KI.out.1, KI.out.2.1, KI.out.2.2⟩
   rw [gb, ← KP.out]; rfl
 · have eL : T0 i j l ++ optT (uC v) (dig c) = T0 i j l := by rw [show optT (uC v) (dig c) = [] from if_neg (by rw [hb]; exact Bool.false_ne_true), List.append_nil]
   rw [eL]
   clear eL hb
   obtain ⟨X, hX⟩ : ∃ X, T0 i j l = X := ⟨_, rfl⟩
   have I2 := I
   rw [hX] at I2 ⊢
   have KI := Hidden.mk I2
   clear hX I I2
   (have fct := trivial; (repeat' first | refine A_walk ?_ | exact trivial | refine GuardK_split (fun hb => ?_) (fun hb => ?_) | refine CondK_split (fun hb => ?_) (fun hb => ?_) | refine CodeK_regionD _ ?_ | refine DGuardK_split (fun hb => ?_) (fun hb => ?_)); all_goals try clear fct)
   have I := KI.out
   exact I
 clear I
 have el := I'.len
 have e7 := I'.t7
 have e8 := I'.t8
 have e9 := I'.t9
 have e10 := I'.t10
 have KI : Hidden (RpI h0 pc h.n B2 B3 B4 B5 (T0 i j l ++ optT (uC v) (dig c)) tm' H') := ⟨I'⟩
 clear I'
 (have fct := Fj @el (Fj @e7 (Fj @e8 (Fj @e9 @e10))); (repeat' first | refine A_walk ?_ | exact trivial | refine GuardK_split (fun hb => ?_) (fun hb => ?_) | refine CondK_split (fun hb => ?_) (fun hb => ?_) | refine CodeK_regionD _ ?_ | refine DGuardK_split (fun hb => ?_) (fun hb => ?_)); all_goals try clear fct)
 have I := KI.out
 clear KI el e7 e8 e9 e10
 clear tm H
 revert I
 generalize tm' = tm
 generalize H' = H
 intro I
 rw [← KB.out.2.1]
 refine CondK_mid (RpI h0 pc h.n B2 B3 B4 B5 (T0 i j l ++ optT (uC v) (dig c) ++ optT (uS v m) (sN s))) (fun hb => ?_) (fun hb => ?_) (fun tm' H' I' => ?_)
 · have eL : T0 i j l ++ optT (uC v) (dig c) ++ optT (uS v m) (sN s) = (T0 i j l ++ optT (uC v) (dig c)) ++ [32] ++ (sN s) := by rw [show optT (uS v m) (sN s) = 32 :: (sN s) from if_pos hb]; simp only [List.append_assoc, List.cons_append, List.nil_append]
   rw [eL]
   have hh := KEEP.out.2.1 hb
   clear eL hb
   have el := I.len
   have e1 := I.t1
   have e7 := I.t7
   have e8 := I.t8
   have e9 := I.t9
   have e10 := I.t10
   have e5 := I.t5
   have gb := I.box
   rw [← KP.out] at gb
   unfold part at gb
   obtain ⟨X, hX⟩ : ∃ X, T0 i j l ++ optT (uC v) (dig c) = X := ⟨_, rfl⟩
   have hXl : X.length ≤ 1000 := by
    rw [← hX]
    have l0 := T0_len i j l
    have l1 := optT_len (uC v) (dig c) fun _ => dig_len c
    have l2 := optT_len (uS v m) (sN s) fun _ => sN_len s
    have l3 := optT_len (uT v m) (tN t) fun _ => tN_len t
    have l4 := optT_len (uM v) (dig k) fun _ => dig_len k
    try simp only [List.length_append]
    omega
   rw [hX] at e5 ⊢
   have hx := sN_len s
   have s1 : (X.length ≤ 9223372036854775806) = True := eq_true (by omega)
   have s2 : ((X ++ [32]).length + (sN s).length ≤ 9223372036854775807) = True := eq_true (by simp only [List.length_append, List.length_cons, List.length_nil]; omega)
   have KI : Hidden (Grown h0 H ∧ h.n ≤ H.low ∧ h.n < H.n) := ⟨I.gr, I.low, I.n⟩
   clear hX hXl hx
   (have fct := Fj @el (Fj @e1 (Fj @e5 (Fj @gb (Fj fsAstr @s1)))); (repeat' first | refine A_walk ?_ | exact trivial | refine GuardK_split (fun hb => ?_) (fun hb => ?_) | refine CondK_split (fun hb => ?_) (fun hb => ?_) | refine CodeK_regionD _ ?_ | refine DGuardK_split (fun hb => ?_) (fun hb => ?_)); all_goals try clear fct)
   refine ResK_eq (KT.out.1.rsuit s _ I.gr hh.1 hh.2) ?_
   clear I hh
   (have fct := Fj @el (Fj @e1 (Fj @e5 (Fj fsAstr @s2))); (repeat' first | refine A_walk ?_ | exact trivial | refine GuardK_split (fun hb => ?_) (fun hb => ?_) | refine CondK_split (fun hb => ?_) (fun hb => ?_) | refine CodeK_regionD _ ?_ | refine DGuardK_split (fun hb => ?_) (fun hb => ?_)); all_goals try clear fct)
   refine ⟨by simp only [List.length_set, el], by simp only [fsTm, Nat.reduceBEq, Nat.reduceLT, el, e1], by simp only [fsTm, Nat.reduceBEq, Nat.reduceLT, el, e7], by simp only [fsTm, Nat.reduceBEq, Nat.reduceLT, el, e8], by simp only [fsTm, Nat.reduceBEq, Nat.reduceLT, el, e9], by simp only [fsTm, Nat.reduceBEq, Nat.reduceLT, el, e10], by simp only [fsTm, Nat.reduceBEq, Nat.reduceLT, el], ?_, KI.out.1, KI.out.2.1, KI.out.2.2⟩
   rw [gb, ← KP.out]; rfl
 · have eL : T0 i j l ++ optT (uC v) (dig c) ++ optT (uS v m) (sN s) = T0 i j l ++ optT (uC v) (dig c) := by rw [show optT (uS v m) (sN s) = [] from if_neg (by rw [hb]; exact Bool.false_ne_true), List.append_nil]
   rw [eL]
   clear eL hb
   obtain ⟨X, hX⟩ : ∃ X, T0 i j l ++ optT (uC v) (dig c) = X := ⟨_, rfl⟩
   have I2 := I
   rw [hX] at I2 ⊢
   have KI := Hidden.mk I2
   clear hX I I2
   (have fct := trivial; (repeat' first | refine A_walk ?_ | exact trivial | refine GuardK_split (fun hb => ?_) (fun hb => ?_) | refine CondK_split (fun hb => ?_) (fun hb => ?_) | refine CodeK_regionD _ ?_ | refine DGuardK_split (fun hb => ?_) (fun hb => ?_)); all_goals try clear fct)
   have I := KI.out
   exact ⟨by simp only [List.length_set, I.len], by simp only [fsTm, Nat.reduceBEq, Nat.reduceLT, I.len, I.t1], by simp only [fsTm, Nat.reduceBEq, Nat.reduceLT, I.len, I.t7], by simp only [fsTm, Nat.reduceBEq, Nat.reduceLT, I.len, I.t8], by simp only [fsTm, Nat.reduceBEq, Nat.reduceLT, I.len, I.t9], by simp only [fsTm, Nat.reduceBEq, Nat.reduceLT, I.len, I.t10], by simp only [fsTm, Nat.reduceBEq, Nat.reduceLT, I.len, I.t5], I.box, I.gr, I.low, I.n⟩
 clear I
 have el := I'.len
 have e7 := I'.t7
 have e8 := I'.t8
 have e9 := I'.t9
 have e10 := I'.t10
 have KI : Hidden (RpI h0 pc h.n B2 B3 B4 B5 (T0 i j l ++ optT (uC v) (dig c) ++ optT (uS v m) (sN s)) tm' H') := ⟨I'⟩
 clear I'
 (have fct := Fj @el (Fj @e7 (Fj @e8 (Fj @e9 @e10))); (repeat' first | refine A_walk ?_ | exact trivial | refine GuardK_split (fun hb => ?_) (fun hb => ?_) | refine CondK_split (fun hb => ?_) (fun hb => ?_) | refine CodeK_regionD _ ?_ | refine DGuardK_split (fun hb => ?_) (fun hb => ?_)); all_goals try clear fct)
 have I := KI.out
 clear KI el e7 e8 e9 e10
 clear tm H
 revert I
 generalize tm' = tm
 generalize H' = H
 intro I
 rw [← KB.out.2.2.1]
 refine CondK_mid (RpI h0 pc h.n B2 B3 B4 B5 (T0 i j l ++ optT (uC v) (dig c) ++ optT (uS v m) (sN s) ++ optT (uT v m) (tN t))) (fun hb => ?_) (fun hb => ?_) (fun tm' H' I' => ?_)
 · have eL : T0 i j l ++ optT (uC v) (dig c) ++ optT (uS v m) (sN s) ++ optT (uT v m) (tN t) = (T0 i j l ++ optT (uC v) (dig c) ++ optT (uS v m) (sN s)) ++ [32] ++ (tN t) := by rw [show optT (uT v m) (tN t) = 32 :: (tN t) from if_pos hb]; simp only [List.append_assoc, List.cons_append, List.nil_append]
   rw [eL]
   have hh := KEEP.out.2.2.1 hb
   clear eL hb
   have el := I.len
   have e1 := I.t1
   have e7 := I.t7
   have e8 := I.t8
   have e9 := I.t9
   have e10 := I.t10
   have e5 := I.t5
   have gb := I.box
   rw [← KP.out] at gb
   unfold part at gb
   obtain ⟨X, hX⟩ : ∃ X, T0 i j l ++ optT (uC v) (dig c) ++ optT (uS v m) (sN s) = X := ⟨_, rfl⟩
   have hXl : X.length ≤ 1000 := by
    rw [← hX]
    have l0 := T0_len i j l
    have l1 := optT_len (uC v) (dig c) fun _ => dig_len c
    have l2 := optT_len (uS v m) (sN s) fun _ => sN_len s
    have l3 := optT_len (uT v m) (tN t) fun _ => tN_len t
    have l4 := optT_len (uM v) (dig k) fun _ => dig_len k
    try simp only [List.length_append]
    omega
   rw [hX] at e5 ⊢
   have hx := tN_len t
   have s1 : (X.length ≤ 9223372036854775806) = True := eq_true (by omega)
   have s2 : ((X ++ [32]).length + (tN t).length ≤ 9223372036854775807) = True := eq_true (by simp only [List.length_append, List.length_cons, List.length_nil]; omega)
   have KI : Hidden (Grown h0 H ∧ h.n ≤ H.low ∧ h.n < H.n) := ⟨I.gr, I.low, I.n⟩
   clear hX hXl hx
   (have fct := Fj @el (Fj @e1 (Fj @e5 (Fj @gb (Fj fsAstr @s1)))); (repeat' first | refine A_walk ?_ | exact trivial | refine GuardK_split (fun hb => ?_) (fun hb => ?_) | refine CondK_split (fun hb => ?_) (fun hb => ?_) | refine CodeK_regionD _ ?_ | refine DGuardK_split (fun hb => ?_) (fun hb => ?_)); all_goals try clear fct)
   refine ResK_eq (KT.out.1.rtrait t _ I.gr hh.1 hh.2) ?_
   clear I hh
   (have fct := Fj @el (Fj @e1 (Fj @e5 (Fj fsAstr @s2))); (repeat' first | refine A_walk ?_ | exact trivial | refine GuardK_split (fun hb => ?_) (fun hb => ?_) | refine CondK_split (fun hb => ?_) (fun hb => ?_) | refine CodeK_regionD _ ?_ | refine DGuardK_split (fun hb => ?_) (fun hb => ?_)); all_goals try clear fct)
   refine ⟨by simp only [List.length_set, el], by simp only [fsTm, Nat.reduceBEq, Nat.reduceLT, el, e1], by simp only [fsTm, Nat.reduceBEq, Nat.reduceLT, el, e7], by simp only [fsTm, Nat.reduceBEq, Nat.reduceLT, el, e8], by simp only [fsTm, Nat.reduceBEq, Nat.reduceLT, el, e9], by simp only [fsTm, Nat.reduceBEq, Nat.reduceLT, el, e10], by simp only [fsTm, Nat.reduceBEq, Nat.reduceLT, el], ?_, KI.out.1, KI.out.2.1, KI.out.2.2⟩
   rw [gb, ← KP.out]; rfl
 · have eL : T0 i j l ++ optT (uC v) (dig c) ++ optT (uS v m) (sN s) ++ optT (uT v m) (tN t) = T0 i j l ++ optT (uC v) (dig c) ++ optT (uS v m) (sN s) := by rw [show optT (uT v m) (tN t) = [] from if_neg (by rw [hb]; exact Bool.false_ne_true), List.append_nil]
   rw [eL]
   clear eL hb
   obtain ⟨X, hX⟩ : ∃ X, T0 i j l ++ optT (uC v) (dig c) ++ optT (uS v m) (sN s) = X := ⟨_, rfl⟩
   have I2 := I
   rw [hX] at I2 ⊢
   have KI := Hidden.mk I2
   clear hX I I2
   (have fct := trivial; (repeat' first | refine A_walk ?_ | exact trivial | refine GuardK_split (fun hb => ?_) (fun hb => ?_) | refine CondK_split (fun hb => ?_) (fun hb => ?_) | refine CodeK_regionD _ ?_ | refine DGuardK_split (fun hb => ?_) (fun hb => ?_)); all_goals try clear fct)
   have I := KI.out
   exact ⟨by simp only [List.length_set, I.len], by simp only [fsTm, Nat.reduceBEq, Nat.reduceLT, I.len, I.t1], by simp only [fsTm, Nat.reduceBEq, Nat.reduceLT, I.len, I.t7], by simp only [fsTm, Nat.reduceBEq, Nat.reduceLT, I.len, I.t8], by simp only [fsTm, Nat.reduceBEq, Nat.reduceLT, I.len, I.t9], by simp only [fsTm, Nat.reduceBEq, Nat.reduceLT, I.len, I.t10], by simp only [fsTm, Nat.reduceBEq, Nat.reduceLT, I.len, I.t5], I.box, I.gr, I.low, I.n⟩
 clear I
 have el := I'.len
 have e7 := I'.t7
 have e8 := I'.t8
 have e9 := I'.t9
 have e10 := I'.t10
 have KI : Hidden (RpI h0 pc h.n B2 B3 B4 B5 (T0 i j l ++ optT (uC v) (dig c) ++ optT (uS v m) (sN s) ++ optT (uT v m) (tN t)) tm' H') := ⟨I'⟩
 clear I'
 (have fct := Fj @el (Fj @e7 (Fj @e8 (Fj @e9 @e10))); (repeat' first | refine A_walk ?_ | exact trivial | refine GuardK_split (fun hb => ?_) (fun hb => ?_) | refine CondK_split (fun hb => ?_) (fun hb => ?_) | refine CodeK_regionD _ ?_ | refine DGuardK_split (fun hb => ?_) (fun hb => ?_)); all_goals try clear fct)
 have I := KI.out
 clear KI el e7 e8 e9 e10
 clear tm H
 revert I
 generalize tm' = tm
 generalize H' = H
 intro I
 rw [← KB.out.2.2.2.1]
 refine CondK_mid (RpI h0 pc h.n B2 B3 B4 B5 (T0 i j l ++ optT (uC v) (dig c) ++ optT (uS v m) (sN s) ++ optT (uT v m) (tN t) ++ optT (uM v) (dig k))) (fun hb => ?_) (fun hb => ?_) (fun tm' H' I' => ?_)
 · have eL : T0 i j l ++ optT (uC v) (dig c) ++ optT (uS v m) (sN s) ++ optT (uT v m) (tN t) ++ optT (uM v) (dig k) = (T0 i j l ++ optT (uC v) (dig c) ++ optT (uS v m) (sN s) ++ optT (uT v m) (tN t)) ++ [32] ++ (dig k) := by rw [show optT (uM v) (dig k) = 32 :: (dig k) from if_pos hb]; simp only [List.append_assoc, List.cons_append, List.nil_append]
   rw [eL]
   have hh := KEEP.out.2.2.2.1 hb
   have wk := KW.out hb
   clear eL hb
   have el := I.len
   have e1 := I.t1
   have e7 := I.t7
   have e8 := I.t8
   have e9 := I.t9
   have e10 := I.t10
   have e5 := I.t5
   have gb := I.box
   rw [← KP.out] at gb
   unfold part at gb
   obtain ⟨X, hX⟩ : ∃ X, T0 i j l ++ optT (uC v) (dig c) ++ optT (uS v m) (sN s) ++ optT (uT v m) (tN t) = X := ⟨_, rfl⟩
   have hXl : X.length ≤ 1000 := by
    rw [← hX]
    have l0 := T0_len i j l
    have l1 := optT_len (uC v) (dig c) fun _ => dig_len c
    have l2 := optT_len (uS v m) (sN s) fun _ => sN_len s
    have l3 := optT_len (uT v m) (tN t) fun _ => tN_len t
    have l4 := optT_len (uM v) (dig k) fun _ => dig_len k
    try simp only [List.length_append]
    omega
   rw [hX] at e5 ⊢
   have hx := dig_len k
   have s1 : (X.length ≤ 9223372036854775806) = True := eq_true (by omega)
   have s2 : ((X ++ [32]).length + (dig k).length ≤ 9223372036854775807) = True := eq_true (by simp only [List.length_append, List.length_cons, List.length_nil]; omega)
   have KI : Hidden (Grown h0 H ∧ h.n ≤ H.low ∧ h.n < H.n) := ⟨I.gr, I.low, I.n⟩
   clear hX hXl hx
   (have fct := Fj @el (Fj @e1 (Fj @e5 (Fj @gb (Fj fsAstr (Fj @s1 @wk))))); (repeat' first | refine A_walk ?_ | exact trivial | refine GuardK_split (fun hb => ?_) (fun hb => ?_) | refine CondK_split (fun hb => ?_) (fun hb => ?_) | refine CodeK_regionD _ ?_ | refine DGuardK_split (fun hb => ?_) (fun hb => ?_)); all_goals try clear fct)
   refine ResK_eq (KT.out.1.digits k _ I.gr (by have := hh.1; omega) (by have := hh.2; omega)) ?_
   clear I hh
   (have fct := Fj @el (Fj @e1 (Fj @e5 (Fj fsAstr @s2))); (repeat' first | refine A_walk ?_ | exact trivial | refine GuardK_split (fun hb => ?_) (fun hb => ?_) | refine CondK_split (fun hb => ?_) (fun hb => ?_) | refine CodeK_regionD _ ?_ | refine DGuardK_split (fun hb => ?_) (fun hb => ?_)); all_goals try clear fct)
   refine ⟨by simp only [List.length_set, el], by simp only [fsTm, Nat.reduceBEq, Nat.reduceLT, el, e1], by simp only [fsTm, Nat.reduceBEq, Nat.reduceLT, el, e7], by simp only [fsTm, Nat.reduceBEq, Nat.reduceLT, el, e8], by simp only [fsTm, Nat.reduceBEq, Nat.reduceLT, el, e9], by simp only [fsTm, Nat.reduceBEq, Nat.reduceLT, el, e10], by simp only [fsTm, Nat.reduceBEq, Nat.reduceLT, el], ?_, KI.out.1, KI.out.2.1, KI.out.2.2⟩
   rw [gb, ← KP.out]; rfl
 · have eL : T0 i j l ++ optT (uC v) (dig c) ++ optT (uS v m) (sN s) ++ optT (uT v m) (tN t) ++ optT (uM v) (dig k) = T0 i j l ++ optT (uC v) (dig c) ++ optT (uS v m) (sN s) ++ optT (uT v m) (tN t) := by rw [show optT (uM v) (dig k) = [] from if_neg (by rw [hb]; exact Bool.false_ne_true), List.append_nil]
   rw [eL]
   clear eL hb
   obtain ⟨X, hX⟩ : ∃ X, T0 i j l ++ optT (uC v) (dig c) ++ optT (uS v m) (sN s) ++ optT (uT v m) (tN t) = X := ⟨_, rfl⟩
   have I2 := I
   rw [hX] at I2 ⊢
   have KI := Hidden.mk I2
   clear hX I I2
   (have fct := trivial; (repeat' first | refine A_walk ?_ | exact trivial | refine GuardK_split (fun hb => ?_) (fun hb => ?_) | refine CondK_split (fun hb => ?_) (fun hb => ?_) | refine CodeK_regionD _ ?_ | refine DGuardK_split (fun hb => ?_) (fun hb => ?_)); all_goals try clear fct)
   have I := KI.out
   exact ⟨by simp only [List.length_set, I.len], by simp only [fsTm, Nat.reduceBEq, Nat.reduceLT, I.len, I.t1], by simp only [fsTm, Nat.reduceBEq, Nat.reduceLT, I.len, I.t7], by simp only [fsTm, Nat.reduceBEq, Nat.reduceLT, I.len, I.t8], by simp only [fsTm, Nat.reduceBEq, Nat.reduceLT, I.len, I.t9], by simp only [fsTm, Nat.reduceBEq, Nat.reduceLT, I.len, I.t10], by simp only [fsTm, Nat.reduceBEq, Nat.reduceLT, I.len, I.t5], I.box, I.gr, I.low, I.n⟩
 clear I
 have el := I'.len
 have e7 := I'.t7
 have e8 := I'.t8
 have e9 := I'.t9
 have e10 := I'.t10
 have KI : Hidden (RpI h0 pc h.n B2 B3 B4 B5 (T0 i j l ++ optT (uC v) (dig c) ++ optT (uS v m) (sN s) ++ optT (uT v m) (tN t) ++ optT (uM v) (dig k)) tm' H') := ⟨I'⟩
 clear I'
 (have fct := Fj @el (Fj @e7 (Fj @e8 (Fj @e9 @e10))); (repeat' first | refine A_walk ?_ | exact trivial | refine GuardK_split (fun hb => ?_) (fun hb => ?_) | refine CondK_split (fun hb => ?_) (fun hb => ?_) | refine CodeK_regionD _ ?_ | refine DGuardK_split (fun hb => ?_) (fun hb => ?_)); all_goals try clear fct)
 have I := KI.out
 clear KI el e7 e8 e9 e10
 clear tm H
 revert I
 generalize tm' = tm
 generalize H' = H
 intro I
 rw [← KB.out.2.2.2.2]
 refine CondK_mid (RpI h0 pc h.n B2 B3 B4 B5 (T0 i j l ++ optT (uC v) (dig c) ++ optT (uS v m) (sN s) ++ optT (uT v m) (tN t) ++ optT (uM v) (dig k) ++ optT (uN v) (nm))) (fun hb => ?_) (fun hb => ?_) (fun tm' H' I' => ?_)
 · have eL : T0 i j l ++ optT (uC v) (dig c) ++ optT (uS v m) (sN s) ++ optT (uT v m) (tN t) ++ optT (uM v) (dig k) ++ optT (uN v) (nm) = (T0 i j l ++ optT (uC v) (dig c) ++ optT (uS v m) (sN s) ++ optT (uT v m) (tN t) ++ optT (uM v) (dig k)) ++ [32] ++ nm := by rw [show optT (uN v) (nm) = 32 :: (nm) from if_pos hb]; simp only [List.append_assoc, List.cons_append, List.nil_append]
   rw [eL]
   have hh := KEEP.out.2.2.2.2 hb
   clear eL hb
   have el := I.len
   have e1 := I.t1
   have e7 := I.t7
   have e8 := I.t8
   have e9 := I.t9
   have e10 := I.t10
   have e5 := I.t5
   have gb := I.box
   rw [← KP.out] at gb
   unfold part at gb
   obtain ⟨X, hX⟩ : ∃ X, T0 i j l ++ optT (uC v) (dig c) ++ optT (uS v m) (sN s) ++ optT (uT v m) (tN t) ++ optT (uM v) (dig k) = X := ⟨_, rfl⟩
   have hXl : X.length ≤ 1000 := by
    rw [← hX]
    have l0 := T0_len i j l
    have l1 := optT_len (uC v) (dig c) fun _ => dig_len c
    have l2 := optT_len (uS v m) (sN s) fun _ => sN_len s
    have l3 := optT_len (uT v m) (tN t) fun _ => tN_len t
    have l4 := optT_len (uM v) (dig k) fun _ => dig_len k
    try simp only [List.length_append]
    omega
   rw [hX] at e5 ⊢
   have hx := hh
   have s1 : (X.length ≤ 9223372036854775806) = True := eq_true (by omega)
   have s2 : ((X ++ [32]).length + (nm).length ≤ 9223372036854775807) = True := eq_true (by simp only [List.length_append, List.length_cons, List.length_nil]; omega)
   have KI : Hidden (Grown h0 H ∧ h.n ≤ H.low ∧ h.n < H.n) := ⟨I.gr, I.low, I.n⟩
   clear hX hXl hx
   clear I hh
   (have fct := Fj @el (Fj @e1 (Fj @e5 (Fj @gb (Fj fsAstr (Fj @s1 @s2))))); (repeat' first | refine A_walk ?_ | exact trivial | refine GuardK_split (fun hb => ?_) (fun hb => ?_) | refine CondK_split (fun hb => ?_) (fun hb => ?_) | refine CodeK_regionD _ ?_ | refine DGuardK_split (fun hb => ?_) (fun hb => ?_)); all_goals try clear fct)
   refine ⟨by simp only [List.length_set, el], by simp only [fsTm, Nat.reduceBEq, Nat.reduceLT, el, e1], by simp only [fsTm, Nat.reduceBEq, Nat.reduceLT, el, e7], by simp only [fsTm, Nat.reduceBEq, Nat.reduceLT, el, e8], by simp only [fsTm, Nat.reduceBEq, Nat.reduceLT, el, e9], by simp only [fsTm, Nat.reduceBEq, Nat.reduceLT, el, e10], by simp only [fsTm, Nat.reduceBEq, Nat.reduceLT, el], ?_, KI.out.1, KI.out.2.1, KI.out.2.2⟩
   rw [gb, ← KP.out]; rfl
 · have eL : T0 i j l ++ optT (uC v) (dig c) ++ optT (uS v m) (sN s) ++ optT (uT v m) (tN t) ++ optT (uM v) (dig k) ++ optT (uN v) (nm) = T0 i j l ++ optT (uC v) (dig c) ++ optT (uS v m) (sN s) ++ optT (uT v m) (tN t) ++ optT (uM v) (dig k) := by rw [show optT (uN v) (nm) = [] from if_neg (by rw [hb]; exact Bool.false_ne_true), List.append_nil]
   rw [eL]
   clear eL hb
   obtain ⟨X, hX⟩ : ∃ X, T0 i j l ++ optT (uC v) (dig c) ++ optT (uS v m) (sN s) ++ optT (uT v m) (tN t) ++ optT (uM v) (dig k) = X := ⟨_, rfl⟩
   have I2 := I
   rw [hX] at I2 ⊢
   have KI := Hidden.mk I2
   clear hX I I2
   (have fct := trivial; (repeat' first | refine A_walk ?_ | exact trivial | refine GuardK_split (fun hb => ?_) (fun hb => ?_) | refine CondK_split (fun hb => ?_) (fun hb => ?_) | refine CodeK_regionD _ ?_ | refine DGuardK_split (fun hb => ?_) (fun hb => ?_)); all_goals try clear fct)
   have I := KI.out
   exact ⟨by simp only [List.length_set, I.len], by simp only [fsTm, Nat.reduceBEq, Nat.reduceLT, I.len, I.t1], by simp only [fsTm, Nat.reduceBEq, Nat.reduceLT, I.len, I.t7], by simp only [fsTm, Nat.reduceBEq, Nat.reduceLT, I.len, I.t8], by simp only [fsTm, Nat.reduceBEq, Nat.reduceLT, I.len, I.t9], by simp only [fsTm, Nat.reduceBEq, Nat.reduceLT, I.len, I.t10], by simp only [fsTm, Nat.reduceBEq, Nat.reduceLT, I.len, I.t5], I.box, I.gr, I.low, I.n⟩
 clear I
 have el := I'.len
 have e7 := I'.t7
 have e8 := I'.t8
 have e9 := I'.t9
 have e10 := I'.t10
 have e5 := I'.t5
 have low := I'.low
 clear I'
 generalize T0 i j l ++ optT (uC v) (dig c) ++ optT (uS v m) (sN s) ++ optT (uT v m) (tN t) ++ optT (uM v) (dig k) ++ optT (uN v) (nm) = X at *
 (have fct := Fj @el (Fj @e5 @low); (repeat' first | refine A_walk ?_ | exact trivial | refine GuardK_split (fun hb => ?_) (fun hb => ?_) | refine CondK_split (fun hb => ?_) (fun hb => ?_) | refine CodeK_regionD _ ?_ | refine DGuardK_split (fun hb => ?_) (fun hb => ?_)); all_goals try clear fct)
end Go.Proofs.Ef
