/- Which parts may be: the code's own check, in plain words. -/
import Derived.Test.YtlppecefalblmaaGreatDoorFz05
import Derived.Test.YtlppecefalblmaaGreatDoorZtEfCf
import Derived.Test.YtlppecefalblmaaGreatDoorFz05
import Derived.Test.YtlppecefalblmaaGreatDoorFz05
import Derived.Lib.SlTrimSet
namespace Go.Proofs.Ef
set_option maxRecDepth 100000
set_option maxHeartbeats 32000000
open Go Go.Fs
set_option linter.unusedSimpArgs false
set_option linter.unusedVariables false
variable {orc : Orc}
noncomputable abbrev T := tbl Tryz.prog
def evB (v : Int) : Bool := decide (1 ≤ v) && decide (v ≤ 9)
def stB (v : Int) : Bool := decide (10 ≤ v) && decide (v ≤ 15)
def swB (v : Int) : Bool := decide (16 ≤ v) && decide (v ≤ 19)
def uC (v : Int) : Bool := v == 1 || v == 2 || v == 3 || v == 4 || v == 5 || v == 14 || v == 15 || v == 16 || v == 19 || v == 9 || v == 7
def uS (v m : Int) : Bool := v == 11 || m == 9
def uT (v m : Int) : Bool := v == 12 || v == 13 || m == 10
def uM (v : Int) : Bool := v == 9
def uN (v : Int) : Bool := v == 7
def lowC (v : Int) : Int := if v = 9 ∨ v = 15 then -99 else if v = 5 then -9 else if v = 14 then 0 else 1
def highC (v : Int) : Int := if v = 5 then 9 else 99
def noughtC (v : Int) : Bool := v == 14
def wantedB (w v : Int) : Bool := if w = 5 then stB v else if w = 6 then swB v else evB v
def plB (m : Int) : Bool := m == 1 || m == 2
def aboutB (w v m : Int) : Bool :=
 if stB v = true then !plB m && !(m == 3) else if swB v = true then !(m == 3) else if m = 3 then w == 1 else !plB m || (!(v == 6) && !(v == 8) && !(v == 9))
def withinB (x : Int) (used : Bool) (low high : Int) : Bool := if used = true then decide (low ≤ x) && decide (x ≤ high) else x == 0
theorem ev_spec (ho : orc 134 = none) (v : Int) (h : AH) : acall orc T 134 [.int .u8 v] h = some (.bool (evB v), h) := by
 refine acall_sym ho tbl134 ?_
 refine GD ?_
 (have fct := trivial; (repeat' first | refine A_walk ?_ | exact trivial | refine GuardK_split (fun hb => ?_) (fun hb => ?_) | refine CondK_split (fun hb => ?_) (fun hb => ?_) | refine CodeK_regionD _ ?_ | refine DGuardK_split (fun hb => ?_) (fun hb => ?_)); all_goals try clear fct)
 all_goals (simp_all [evB] <;> omega)
theorem st_spec (ho : orc 132 = none) (v : Int) (h : AH) : acall orc T 132 [.int .u8 v] h = some (.bool (stB v), h) := by
 refine acall_sym ho tbl132 ?_
 refine GD ?_
 (have fct := trivial; (repeat' first | refine A_walk ?_ | exact trivial | refine GuardK_split (fun hb => ?_) (fun hb => ?_) | refine CondK_split (fun hb => ?_) (fun hb => ?_) | refine CodeK_regionD _ ?_ | refine DGuardK_split (fun hb => ?_) (fun hb => ?_)); all_goals try clear fct)
 all_goals (simp_all [stB] <;> omega)
theorem sw_spec (ho : orc 133 = none) (v : Int) (h : AH) : acall orc T 133 [.int .u8 v] h = some (.bool (swB v), h) := by
 refine acall_sym ho tbl133 ?_
 refine GD ?_
 (have fct := trivial; (repeat' first | refine A_walk ?_ | exact trivial | refine GuardK_split (fun hb => ?_) (fun hb => ?_) | refine CondK_split (fun hb => ?_) (fun hb => ?_) | refine CodeK_regionD _ ?_ | refine DGuardK_split (fun hb => ?_) (fun hb => ?_)); all_goals try clear fct)
 all_goals (simp_all [swB] <;> omega)
theorem uses_spec (ho : orc 89 = none) (v m : Int) (h : AH) : acall orc T 89 [.int .u8 v, .int .u8 m] h = some (.tuple [.bool (uC v), .bool (uS v m), .bool (uT v m), .bool (uM v), .bool (uN v)], h) := by
 refine acall_sym ho tbl89 ?_
 refine GD ?_
 (have fct := trivial; (repeat' first | refine A_walk ?_ | exact trivial | refine GuardK_split (fun hb => ?_) (fun hb => ?_) | refine CondK_split (fun hb => ?_) (fun hb => ?_) | refine CodeK_regionD _ ?_ | refine DGuardK_split (fun hb => ?_) (fun hb => ?_)); all_goals try clear fct)
 all_goals simp_all [uC, uS, uT, uM, uN]
theorem bounds_spec (ho : orc 90 = none) (v : Int) (h : AH) : acall orc T 90 [.int .u8 v] h = some (.tuple [.int .i64 (lowC v), .int .i64 (highC v), .bool (noughtC v)], h) := by
 refine acall_sym ho tbl90 ?_
 refine GD ?_
 (have fct := trivial; (repeat' first | refine A_walk ?_ | exact trivial | refine GuardK_split (fun hb => ?_) (fun hb => ?_) | refine CondK_split (fun hb => ?_) (fun hb => ?_) | refine CodeK_regionD _ ?_ | refine DGuardK_split (fun hb => ?_) (fun hb => ?_)); all_goals try clear fct)
 all_goals simp_all [lowC, highC, noughtC]
theorem wanted_spec (ho : orc 91 = none) (ho1 : orc 132 = none) (ho2 : orc 133 = none) (ho3 : orc 134 = none) (w v : Int) (h : AH) : acall orc T 91 [.int .u8 w, .int .u8 v] h = some (.bool (wantedB w v), h) := by
 refine acall_sym ho tbl91 ?_
 have c1 := st_spec ho1 v
 have c2 := sw_spec ho2 v
 have c3 := ev_spec ho3 v
 refine GD ?_
 (have fct := Fj @c1 (Fj @c2 @c3); (repeat' first | refine A_walk ?_ | exact trivial | refine GuardK_split (fun hb => ?_) (fun hb => ?_) | refine CondK_split (fun hb => ?_) (fun hb => ?_) | refine CodeK_regionD _ ?_ | refine DGuardK_split (fun hb => ?_) (fun hb => ?_)); all_goals try clear fct)
 all_goals simp_all [wantedB]
theorem withinI_spec (ho : orc 93 = none) (x low high : Int) (u : Bool) (h : AH) : acall orc T 93 [.int .i64 x, .bool u, .int .i64 low, .int .i64 high] h = some (.bool (withinB x u low high), h) := by
 refine acall_sym ho tbl93 ?_
 refine GD ?_
 cases u <;> (have fct := trivial; (repeat' first | refine A_walk ?_ | exact trivial | refine GuardK_split (fun hb => ?_) (fun hb => ?_) | refine CondK_split (fun hb => ?_) (fun hb => ?_) | refine CodeK_regionD _ ?_ | refine DGuardK_split (fun hb => ?_) (fun hb => ?_)); all_goals try clear fct)
 all_goals (simp_all [withinB] <;> omega)
theorem withinS_spec (ho : orc 94 = none) (x low high : Int) (u : Bool) (h : AH) : acall orc T 94 [.int .u8 x, .bool u, .int .u8 low, .int .u8 high] h = some (.bool (withinB x u low high), h) := by
 refine acall_sym ho tbl94 ?_
 refine GD ?_
 cases u <;> (have fct := trivial; (repeat' first | refine A_walk ?_ | exact trivial | refine GuardK_split (fun hb => ?_) (fun hb => ?_) | refine CondK_split (fun hb => ?_) (fun hb => ?_) | refine CodeK_regionD _ ?_ | refine DGuardK_split (fun hb => ?_) (fun hb => ?_)); all_goals try clear fct)
 all_goals (simp_all [withinB] <;> omega)
theorem withinT_spec (ho : orc 95 = none) (x low high : Int) (u : Bool) (h : AH) : acall orc T 95 [.int .u8 x, .bool u, .int .u8 low, .int .u8 high] h = some (.bool (withinB x u low high), h) := by
 refine acall_sym ho tbl95 ?_
 refine GD ?_
 cases u <;> (have fct := trivial; (repeat' first | refine A_walk ?_ | exact trivial | refine GuardK_split (fun hb => ?_) (fun hb => ?_) | refine CondK_split (fun hb => ?_) (fun hb => ?_) | refine CodeK_regionD _ ?_ | refine DGuardK_split (fun hb => ?_) (fun hb => ?_)); all_goals try clear fct)
 all_goals (simp_all [withinB] <;> omega)
theorem withinM_spec (ho : orc 96 = none) (x low high : Int) (u : Bool) (h : AH) : acall orc T 96 [.int .u8 x, .bool u, .int .u8 low, .int .u8 high] h = some (.bool (withinB x u low high), h) := by
 refine acall_sym ho tbl96 ?_
 refine GD ?_
 cases u <;> (have fct := trivial; (repeat' first | refine A_walk ?_ | exact trivial | refine GuardK_split (fun hb => ?_) (fun hb => ?_) | refine CondK_split (fun hb => ?_) (fun hb => ?_) | refine CodeK_regionD _ ?_ | refine DGuardK_split (fun hb => ?_) (fun hb => ?_)); all_goals try clear fct)
 all_goals (simp_all [withinB] <;> omega)
def part (w v m c s t k : Int) (nm : List UInt8) : List AV := [.int .u8 w, .int .u8 v, .int .u8 m, .int .i64 c, .int .u8 s, .int .u8 t, .int .u8 k, .str nm]
theorem about_spec (ho : orc 92 = none) (ho1 : orc 132 = none) (ho2 : orc 133 = none) (w v m c s t k : Int) (nm : List UInt8) (h : AH) : acall orc T 92 [.agg (part w v m c s t k nm)] h = some (.bool (aboutB w v m), h) := by
 refine acall_sym ho tbl92 ?_
 have c1 := st_spec ho1 v
 have c2 := sw_spec ho2 v
 unfold part
 refine GD ?_
 (have fct := Fj @c1 @c2; (repeat' first | refine A_walk ?_ | exact trivial | refine GuardK_split (fun hb => ?_) (fun hb => ?_) | refine CondK_split (fun hb => ?_) (fun hb => ?_) | refine CodeK_regionD _ ?_ | refine DGuardK_split (fun hb => ?_) (fun hb => ?_)); all_goals try clear fct)
 all_goals (simp_all [aboutB, plB] <;> (rw [Bool.eq_iff_iff]; simp only [bne_iff_ne, ne_eq, Bool.and_eq_true, Bool.or_eq_true, Bool.not_eq_true', beq_eq_false_iff_ne, beq_iff_eq]; try omega))
def cutset : List UInt8 := [97, 98, 99, 100, 101, 102, 103, 104, 105, 106, 107, 108, 109, 110, 111, 112, 113, 114, 115, 116, 117, 118, 119, 120, 121, 122, 45]
def isName (s : List UInt8) : Bool := decide (1 ≤ s.length) && decide (s.length ≤ 20) && (((s.headD 0).toNat : Int) != 45) && s.all (cutset.contains ·)
theorem dropWhile_nil {p : UInt8 → Bool} : ∀ (l : List UInt8), l.dropWhile p = [] ↔ l.all p = true
 | [] => by simp
 | a :: l => by
   cases h : p a with
   | true => simp [List.dropWhile_cons, h, dropWhile_nil l]
   | false => simp [List.dropWhile_cons, h]
theorem all_reverse (p : UInt8 → Bool) (l : List UInt8) : l.reverse.all p = l.all p := by simp
theorem trimS_nil (s : List UInt8) : Lib.trimS s cutset = [] ↔ s.all (cutset.contains ·) = true := by
 unfold Lib.trimS Lib.trimLeftS Lib.trimRightS
 rw [dropWhile_nil]
 constructor
 · intro h
   rw [all_reverse] at h
   have key : ∀ (l : List UInt8), (l.dropWhile (cutset.contains ·)).all (cutset.contains ·) = true → l.all (cutset.contains ·) = true := fun l => by
    induction l with
    | nil => exact fun h => h
    | cons a l ih =>
      intro h
      cases hp : cutset.contains a with
      | true =>
        simp only [List.dropWhile_cons, hp, if_true] at h
        simp only [List.all_cons, hp, Bool.true_and]
        exact ih h
      | false => simpa only [List.dropWhile_cons, hp, if_false, Bool.false_eq_true] using h
   have := key _ h
   rwa [all_reverse] at this
 · intro h
   have : s.reverse.dropWhile (cutset.contains ·) = [] := by rw [dropWhile_nil, all_reverse]; exact h
   rw [this]; rfl
def Trims (orc : Orc) : Prop := ∀ (a : List UInt8) (h : AH), a.length ≤ 20 → acall orc T 131 [.str a, .str cutset] h = some (.str (Lib.trimS a cutset), h)
def idxSV (v i : AV) (h : AH) : Option (AV × AH) :=
 match v, i with
 | .str s, .int _ n => if 0 ≤ n then (s[n.toNat]?).map fun b => (.int .u8 b.toNat, h) else none
 | _, _ => none
theorem op_idxS {call : Rec} {tm : List AV} {h : AH} (x i : CA) : runOp call (.idxS x i) tm h = idxSV (x.ev tm) (i.ev tm) h := by
 simp only [runOp, CO.quiet, if_true, quietRun, idxSV]
 generalize x.ev tm = v
 generalize i.ev tm = u
 cases v <;> first | rfl | skip
 cases u <;> first | rfl | skip
 simp only
 split
 · rw [Option.map_map]; rfl
 · rfl
theorem idxSV_zero (b : UInt8) (s : List UInt8) (k : IntKind) (h : AH) : idxSV (.str (b :: s)) (.int k 0) h = some (.int .u8 b.toNat, h) := rfl
theorem name_spec (ho : orc 97 = none) (ht : Trims orc) (s : List UInt8) (h : AH) : acall orc T 97 [.str s] h = some (.bool (isName s), h) := by
 refine acall_sym ho tbl97 ?_
 cases s with
 | nil =>
   refine GD ?_
   have l1 : decide ((1 : Int) ≤ ((0 : Nat) : Int)) = false := by decide
   (have fct := @l1; (repeat' first | refine A_walk ?_ | exact trivial | refine GuardK_split (fun hb => ?_) (fun hb => ?_) | refine CondK_split (fun hb => ?_) (fun hb => ?_) | refine CodeK_regionD _ ?_ | refine DGuardK_split (fun hb => ?_) (fun hb => ?_)); all_goals try clear fct)
   all_goals simp_all [isName]
 | cons b s =>
   have l1 : decide ((1 : Int) ≤ ((s.length + 1 : Nat) : Int)) = true := by rw [decide_eq_true_eq]; omega
   by_cases hl : s.length + 1 ≤ 20
   · have l2 : decide (((s.length + 1 : Nat) : Int) ≤ 20) = true := by rw [decide_eq_true_eq]; omega
     have c1 := ht (b :: s) (h := h.withLow h.n) (by simpa using hl)
     unfold cutset at c1
     cases hb0 : ((b.toNat : Int) != 45) with
     | false =>
       refine GD ?_
       (have fct := Fj @l1 (Fj @l2 (Fj @op_idxS (Fj @idxSV_zero @hb0))); (repeat' first | refine A_walk ?_ | exact trivial | refine GuardK_split (fun hb => ?_) (fun hb => ?_) | refine CondK_split (fun hb => ?_) (fun hb => ?_) | refine CodeK_regionD _ ?_ | refine DGuardK_split (fun hb => ?_) (fun hb => ?_)); all_goals try clear fct)
       all_goals (simp only [isName, List.headD_cons, hb0, Bool.and_false, Bool.false_and])
     | true =>
       have hE : isName (b :: s) = decide (Lib.trimS (b :: s) cutset = []) := by
        have e1 : decide (1 ≤ (b :: s).length) = true := by simp
        have e2 : decide ((b :: s).length ≤ 20) = true := by simpa using hl
        rw [isName, e1, e2, List.headD_cons, hb0, Bool.true_and, Bool.true_and, Bool.true_and, Bool.eq_iff_iff, decide_eq_true_eq]
        exact (trimS_nil _).symm
       rw [hE]
       unfold cutset
       refine GD ?_
       (have fct := Fj @l1 (Fj @l2 (Fj @op_idxS (Fj @idxSV_zero (Fj @hb0 (Fj @c1 fsAstr))))); (repeat' first | refine A_walk ?_ | exact trivial | refine GuardK_split (fun hb => ?_) (fun hb => ?_) | refine CondK_split (fun hb => ?_) (fun hb => ?_) | refine CodeK_regionD _ ?_ | refine DGuardK_split (fun hb => ?_) (fun hb => ?_)); all_goals try clear fct)
   · have l2 : decide (((s.length + 1 : Nat) : Int) ≤ 20) = false := by rw [decide_eq_false_iff_not]; omega
     have hE : isName (b :: s) = false := by
      have e2 : decide ((b :: s).length ≤ 20) = false := by simpa using hl
      rw [isName, e2, Bool.and_false, Bool.false_and, Bool.false_and]
     rw [hE]
     refine GD ?_
     (have fct := Fj @l1 @l2; (repeat' first | refine A_walk ?_ | exact trivial | refine GuardK_split (fun hb => ?_) (fun hb => ?_) | refine CondK_split (fun hb => ?_) (fun hb => ?_) | refine CodeK_regionD _ ?_ | refine DGuardK_split (fun hb => ?_) (fun hb => ?_)); all_goals try clear fct)
def bad1 (w v m : Int) : Bool := decide (w < 1) || decide (6 < w) || decide (v < 1) || decide (19 < v) || decide (m < 1) || decide (10 < m)
def bad2 (w v m : Int) : Bool := !wantedB w v || (v == 11 && m == 9)
def bad4 (v c : Int) : Bool := !withinB c (uC v) (lowC v) (highC v) || (uC v && !noughtC v && c == 0)
def bad5 (v m s t k : Int) : Bool := !withinB s (uS v m) 1 6 || !withinB t (uT v m) 1 8 || !withinB k (uM v) 1 4
def bad6 (v : Int) (nm : List UInt8) : Bool := (uN v != !decide (nm = [])) || (uN v && !isName nm)
def chk (w v m c s t k : Int) (nm : List UInt8) : Int :=
 if bad1 w v m = true then 2 else if bad2 w v m = true then 8 else if aboutB w v m = false then 13 else if bad4 v c = true then 2 else if bad5 v m s t k = true then 2 else if bad6 v nm = true then 4 else 0
theorem check_spec (ho : ∀ f, f ∈ [37, 89, 90, 91, 92, 93, 94, 95, 96, 97, 132, 133, 134] → orc f = none) (ht : Trims orc) (w v m c s t k : Int) (nm : List UInt8) (h : AH) :
    acall orc T 37 [.agg (part w v m c s t k nm)] h = some (.int .i64 (chk w v m c s t k nm), h) := by
 refine acall_sym (ho _ (by simp)) tbl37 ?_
 have c1 := uses_spec (orc := orc) (ho _ (by simp)) v m
 have c2 := bounds_spec (orc := orc) (ho _ (by simp)) v
 have c3 := wanted_spec (orc := orc) (ho _ (by simp)) (ho _ (by simp)) (ho _ (by simp)) (ho _ (by simp)) w v
 have c4 := about_spec (orc := orc) (ho _ (by simp)) (ho _ (by simp)) (ho _ (by simp)) w v m c s t k nm
 have c5 := withinI_spec (orc := orc) (ho _ (by simp)) c (lowC v) (highC v) (uC v)
 have c6 := withinS_spec (orc := orc) (ho _ (by simp)) s 1 6 (uS v m)
 have c7 := withinT_spec (orc := orc) (ho _ (by simp)) t 1 8 (uT v m)
 have c8 := withinM_spec (orc := orc) (ho _ (by simp)) k 1 4 (uM v)
 have c9 := name_spec (orc := orc) (ho _ (by simp)) ht nm
 unfold part at c4 ⊢
 unfold chk bad1 bad2 bad4 bad5 bad6
 generalize withinB c (uC v) (lowC v) (highC v) = I at *
 generalize withinB s (uS v m) 1 6 = S at *
 generalize withinB t (uT v m) 1 8 = U at *
 generalize withinB k (uM v) 1 4 = M at *
 generalize aboutB w v m = A at *
 generalize wantedB w v = W at *
 generalize isName nm = Q at *
 generalize uC v = bC at *
 generalize uN v = bN at *
 generalize noughtC v = bO at *
 refine GD ?_
 (have fct := Fj fsAstr (Fj @c1 (Fj @c2 (Fj @c3 (Fj @c4 (Fj @c5 (Fj @c6 (Fj @c7 (Fj @c8 @c9)))))))); (repeat' first | refine A_walk ?_ | exact trivial | refine GuardK_split (fun hb => ?_) (fun hb => ?_) | refine CondK_split (fun hb => ?_) (fun hb => ?_) | refine CodeK_regionD _ ?_ | refine DGuardK_split (fun hb => ?_) (fun hb => ?_)); all_goals try clear fct)
 all_goals (clear c1 c2 c3 c4 c5 c6 c7 c8 c9; simp_all)
theorem wrap_byte {s : Int} (h1 : 0 ≤ s) (h2 : s ≤ 255) : IntKind.wrap .i64 s = s := by
 obtain ⟨n, rfl⟩ := Int.eq_ofNat_of_zero_le h1
 exact wrap_i64 (by omega) (by omega)
end Go.Proofs.Ef
