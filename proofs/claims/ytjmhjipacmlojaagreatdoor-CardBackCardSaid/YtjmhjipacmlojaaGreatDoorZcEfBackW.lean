/- The law 'there and back' of a part, by its walk. -/
import Derived.Test.YtjmhjipacmlojaaGreatDoorFz06
import Derived.Test.YtjmhjipacmlojaaGreatDoorZcEfPlain
namespace Go.Proofs.Ef
open Go Go.Fs
set_option linter.unusedSimpArgs false
set_option linter.unusedVariables false
variable {orc : Orc}
def cf5 : CF := ⟨90, [(.tmp 6)], (.seq (.region [⟨(some 3), (.box (.t 0)), none⟩, ⟨(some 4), (.box (.t 1)), none⟩, ⟨(some 6), (.mv (.c (.bool false))), none⟩]) (.seq (.region [⟨(some 18), (.load (some 8) (.t 3)), none⟩, ⟨(some 19), (.call (.f 23) [(.t 18)]), none⟩, ⟨(some 17), (.mv (.t 19)), none⟩, ⟨(some 20), (.ext 0 (.t 17)), none⟩, ⟨(some 21), (.ext 1 (.t 17)), none⟩, ⟨(some 7), (.mv (.t 20)), none⟩, ⟨(some 8), (.mv (.t 21)), none⟩]) (.seq (.seq (.region [⟨(some 22), (.mv (.t 8)), none⟩, ⟨(some 23), (.bin .eql .other (.t 22) (.c (.int .i64 0))), none⟩]) (.cond (.t 23) (.seq (.region [⟨(some 25), (.mv (.t 7)), none⟩, ⟨(some 26), (.call (.f 20) [(.t 25)]), none⟩, ⟨(some 24), (.mv (.t 26)), none⟩, ⟨(some 27), (.ext 0 (.t 24)), none⟩, ⟨(some 28), (.ext 1 (.t 24)), none⟩, ⟨(some 9), (.alloc [(.int .u8 0), (.int .u8 0), (.int .u8 0), (.int .i64 0), (.int .u8 0), (.int .u8 0), (.int .u8 0), (.str [])]), none⟩, ⟨none, (.store 8 (.t 9) (.t 27)), none⟩, ⟨(some 10), (.mv (.t 28)), none⟩]) (.seq (.seq (.region [⟨(some 29), (.mv (.t 10)), none⟩, ⟨(some 30), (.bin .neq .other (.t 29) (.c (.int .i64 0))), none⟩, ⟨(some 31), (.mv (.t 30)), none⟩, ⟨(some 32), (.load (some 8) (.t 9)), (some (31, false))⟩, ⟨(some 33), (.load (some 8) (.t 3)), (some (31, false))⟩, ⟨(some 34), (.bin .neq (.agg 8 [(0, .i), (1, .i), (2, .i), (3, .i), (4, .i), (5, .i), (6, .i), (7, .s)]) (.t 32) (.t 33)), (some (31, false))⟩, ⟨(some 35), (.pick (.t 31) (.c (.bool true)) (.t 34)), none⟩, ⟨(some 36), (.mv (.t 35)), none⟩, ⟨(some 37), (.mv (.t 7)), (some (36, false))⟩, ⟨(some 38), (.lenS (.t 37)), (some (36, false))⟩, ⟨(some 39), (.bin .gtr .other (.t 38) (.c (.int .i64 80))), (some (36, false))⟩, ⟨(some 40), (.pick (.t 36) (.c (.bool true)) (.t 39)), none⟩, ⟨(some 41), (.mv (.t 40)), none⟩, ⟨(some 42), (.load (some 8) (.t 3)), (some (41, false))⟩, ⟨(some 43), (.call (.f 24) [(.t 42)]), (some (41, false))⟩, ⟨(some 44), (.bin .neq .other (.t 43) (.c (.int .i64 0))), (some (41, false))⟩, ⟨(some 45), (.pick (.t 41) (.c (.bool true)) (.t 44)), none⟩]) (.cond (.t 45) (.seq (.region [⟨(some 6), (.mv (.c (.bool false))), none⟩]) .ret) .skip)) (.seq (.region [⟨(some 47), (.load (some 8) (.t 4)), none⟩, ⟨(some 48), (.call (.f 23) [(.t 47)]), none⟩, ⟨(some 46), (.mv (.t 48)), none⟩, ⟨(some 49), (.ext 0 (.t 46)), none⟩, ⟨(some 50), (.ext 1 (.t 46)), none⟩, ⟨(some 11), (.mv (.t 49)), none⟩, ⟨(some 12), (.mv (.t 50)), none⟩]) (.seq (.region [⟨(some 51), (.mv (.t 12)), none⟩, ⟨(some 52), (.bin .eql .other (.t 51) (.c (.int .i64 0))), none⟩, ⟨(some 53), (.mv (.t 52)), none⟩, ⟨(some 54), (.mv (.t 11)), (some (53, true))⟩, ⟨(some 55), (.mv (.t 7)), (some (53, true))⟩, ⟨(some 56), (.bin .eql .other (.t 54) (.t 55)), (some (53, true))⟩, ⟨(some 57), (.load (some 8) (.t 3)), (some (53, true))⟩, ⟨(some 58), (.load (some 8) (.t 4)), (some (53, true))⟩, ⟨(some 59), (.bin .eql (.agg 8 [(0, .i), (1, .i), (2, .i), (3, .i), (4, .i), (5, .i), (6, .i), (7, .s)]) (.t 57) (.t 58)), (some (53, true))⟩, ⟨(some 60), (.bin .neq .scal (.t 56) (.t 59)), (some (53, true))⟩, ⟨(some 61), (.pick (.t 53) (.t 60) (.c (.bool false))), none⟩]) (.cond (.t 61) (.seq (.region [⟨(some 6), (.mv (.c (.bool false))), none⟩]) .ret) .skip))))) .skip)) (.seq (.region [⟨(some 63), (.mv (.t 2)), none⟩, ⟨(some 64), (.call (.f 20) [(.t 63)]), none⟩, ⟨(some 62), (.mv (.t 64)), none⟩, ⟨(some 65), (.ext 0 (.t 62)), none⟩, ⟨(some 66), (.ext 1 (.t 62)), none⟩, ⟨(some 13), (.alloc [(.int .u8 0), (.int .u8 0), (.int .u8 0), (.int .i64 0), (.int .u8 0), (.int .u8 0), (.int .u8 0), (.str [])]), none⟩, ⟨none, (.store 8 (.t 13) (.t 65)), none⟩, ⟨(some 14), (.mv (.t 66)), none⟩]) (.seq (.seq (.region [⟨(some 67), (.mv (.t 14)), none⟩, ⟨(some 68), (.bin .neq .other (.t 67) (.c (.int .i64 0))), none⟩]) (.cond (.t 68) (.seq (.region [⟨(some 69), (.load (some 8) (.t 13)), none⟩, ⟨(some 70), (.build [(.int .u8 0), (.int .u8 0), (.int .u8 0), (.int .i64 0), (.int .u8 0), (.int .u8 0), (.int .u8 0), (.str [])] []), none⟩, ⟨(some 71), (.bin .eql (.agg 8 [(0, .i), (1, .i), (2, .i), (3, .i), (4, .i), (5, .i), (6, .i), (7, .s)]) (.t 69) (.t 70)), none⟩, ⟨(some 72), (.mv (.t 71)), none⟩, ⟨(some 73), (.call (.f 22) []), (some (72, true))⟩, ⟨(some 74), (.pick (.t 72) (.t 73) (.c (.bool false))), none⟩, ⟨(some 6), (.mv (.t 74)), none⟩]) .ret) .skip)) (.seq (.region [⟨(some 76), (.load (some 8) (.t 13)), none⟩, ⟨(some 77), (.call (.f 23) [(.t 76)]), none⟩, ⟨(some 75), (.mv (.t 77)), none⟩, ⟨(some 78), (.ext 0 (.t 75)), none⟩, ⟨(some 79), (.ext 1 (.t 75)), none⟩, ⟨(some 15), (.mv (.t 78)), none⟩, ⟨(some 16), (.mv (.t 79)), none⟩]) (.seq (.region [⟨(some 80), (.mv (.t 16)), none⟩, ⟨(some 81), (.bin .eql .other (.t 80) (.c (.int .i64 0))), none⟩, ⟨(some 82), (.mv (.t 81)), none⟩, ⟨(some 83), (.mv (.t 15)), (some (82, true))⟩, ⟨(some 84), (.mv (.t 2)), (some (82, true))⟩, ⟨(some 85), (.bin .eql .other (.t 83) (.t 84)), (some (82, true))⟩, ⟨(some 86), (.pick (.t 82) (.t 85) (.c (.bool false))), none⟩, ⟨(some 87), (.mv (.t 86)), none⟩, ⟨(some 88), (.call (.f 22) []), (some (87, true))⟩, ⟨(some 89), (.pick (.t 87) (.t 88) (.c (.bool false))), none⟩, ⟨(some 6), (.mv (.t 89)), none⟩]) .ret)))))))⟩
theorem tbl5 : tbl Tryz.prog 5 = some cf5 := by kernel_rfl

section
variable (pieces : List UInt8 → List (List UInt8)) (atoiV : List UInt8 → Int) (sf : List UInt8 → Int × Bool)
/-- What a text is read as: the part, and the error. -/
def prs (s : List UInt8) : List AV × Int :=
  if s.length ≤ 80 ∧ 3 ≤ (pieces s).length then
    if okP atoiV sf (rV (pieces s)) (rM (pieces s)) (rW (pieces s)) ((pieces s).drop 3) s = true then (partR atoiV sf (rV (pieces s)) (rM (pieces s)) (rW (pieces s)) ((pieces s).drop 3), 0) else (zeroP, 150)
  else (zeroP, if s.length ≤ 80 then 150 else 3)
end

theorem parse_spec {h0 : AH} {pieces : List UInt8 → List (List UInt8)} {atoiV : List UInt8 → Int} {sf : List UInt8 → Int × Bool} (ho : ∀ f, f ∈ [20, 52, 53, 57, 23, 51, 24, 54, 61, 62, 63, 64, 65, 66, 67, 68, 106, 107, 108] → orc f = none)
    (ht : Trims orc) (hF : Flds orc h0) (hJ : Joins orc) (hT : Told orc h0) (hP : PTold orc h0 pieces atoiV sf) (s : List UInt8) {h : AH} (hg : Grown h0 h) :
    acall orc T 20 [.str s] h = some (.tuple [.agg (prs pieces atoiV sf s).1, .int .i64 (prs pieces atoiV sf s).2], h) := by
  by_cases h1 : s.length ≤ 80
  case neg =>
    rw [parse_long (ho _ (by simp)) s h1]
    simp only [prs, h1, false_and, if_false]
  case pos =>
  by_cases h2 : 3 ≤ (pieces s).length
  case neg =>
    rw [parse_few (ho _ (by simp)) hP s h1 (by omega) hg]
    simp only [prs, h1, h2, and_false, if_false, if_true]
  case pos =>
    rw [parse_read ho ht hF hJ hT hP s h1 _ rfl h2 hg]
    simp only [prs, h1, h2, and_self, if_true]
    cases okP atoiV sf (rV (pieces s)) (rM (pieces s)) (rW (pieces s)) ((pieces s).drop 3) s <;> simp

theorem prs_cases (pieces : List UInt8 → List (List UInt8)) (atoiV : List UInt8 → Int) (sf : List UInt8 → Int × Bool) (x : List UInt8) :
    (∃ w v m c s t k nm, chk w v m c s t k nm = 0 ∧ txtP w v m c s t k nm = x ∧ prs pieces atoiV sf x = (part w v m c s t k nm, 0)) ∨ ∃ e, e ≠ 0 ∧ prs pieces atoiV sf x = (zeroP, e) := by
  unfold prs
  split
  · split
    · rename_i hk
      have hk := of_decide_eq_true hk
      exact .inl ⟨_, _, _, _, _, _, _, _, hk.1, hk.2, rfl⟩
    · exact .inr ⟨_, by decide, rfl⟩
  · refine .inr ⟨_, ?_, rfl⟩
    split <;> decide

theorem prs_back {pieces : List UInt8 → List (List UInt8)} {atoiV : List UInt8 → Int} {sf : List UInt8 → Int × Bool} (A : RTold atoiV sf) (hp : ∀ W : List (List UInt8), W ≠ [] → W.all noB = true → pieces (Lib.join W [32]) = W) {w v m c s t k : Int} {nm : List UInt8} (h : chk w v m c s t k nm = 0) :
    prs pieces atoiV sf (txtP w v m c s t k nm) = (part w v m c s t k nm, 0) := by
  obtain ⟨R, e1, e2, e3, e4, e5, e6⟩ := back_text A hp h
  unfold prs
  have hR : (pieces (txtP w v m c s t k nm)).drop 3 = R := by rw [e1]; rfl
  rw [if_pos ⟨txtP_len80 _ _ _ _ _ _ _ _, by rw [e1]; simp⟩, e2, e3, e4, hR, if_pos e5, e6]

theorem part_inj {w v m c s t k : Int} {nm : List UInt8} {w' v' m' c' s' t' k' : Int} {nm' : List UInt8} (h : part w v m c s t k nm = part w' v' m' c' s' t' k' nm') : w = w' ∧ v = v' ∧ m = m' ∧ c = c' ∧ s = s' ∧ t = t' ∧ k = k' ∧ nm = nm' := by
  simp [part] at h
  exact h
theorem txt_same {pieces : List UInt8 → List (List UInt8)} {atoiV : List UInt8 → Int} {sf : List UInt8 → Int × Bool} (A : RTold atoiV sf) (hp : ∀ W : List (List UInt8), W ≠ [] → W.all noB = true → pieces (Lib.join W [32]) = W) {w v m c s t k : Int} {nm : List UInt8} (h : chk w v m c s t k nm = 0)
    {w' v' m' c' s' t' k' : Int} {nm' : List UInt8} (h' : chk w' v' m' c' s' t' k' nm' = 0) :
    (w == w' && (v == v' && (m == m' && (c == c' && (s == s' && (t == t' && (k == k' && decide (nm = nm')))))))) = decide (txtP w' v' m' c' s' t' k' nm' = txtP w v m c s t k nm) := by
  rw [Bool.eq_iff_iff]
  simp only [Bool.and_eq_true, beq_iff_eq, decide_eq_true_eq]
  constructor
  · rintro ⟨rfl, rfl, rfl, rfl, rfl, rfl, rfl, rfl⟩; rfl
  · intro e
    have e1 := prs_back A hp h
    rw [← e, prs_back A hp h'] at e1
    have := part_inj (Prod.mk.inj e1).1
    obtain ⟨rfl, rfl, rfl, rfl, rfl, rfl, rfl, rfl⟩ := this
    exact ⟨rfl, rfl, rfl, rfl, rfl, rfl, rfl, rfl⟩

theorem part_0 (w v m c s t k : Int) (nm : List UInt8) : (part w v m c s t k nm)[0]? = some (.int .u8 w) := rfl
theorem part_3 (w v m c s t k : Int) (nm : List UInt8) : (part w v m c s t k nm)[3]? = some (.int .i64 c) := rfl
theorem part_4 (w v m c s t k : Int) (nm : List UInt8) : (part w v m c s t k nm)[4]? = some (.int .u8 s) := rfl
theorem part_5 (w v m c s t k : Int) (nm : List UInt8) : (part w v m c s t k nm)[5]? = some (.int .u8 t) := rfl
theorem part_6 (w v m c s t k : Int) (nm : List UInt8) : (part w v m c s t k nm)[6]? = some (.int .u8 k) := rfl
theorem part_7 (w v m c s t k : Int) (nm : List UInt8) : (part w v m c s t k nm)[7]? = some (.str nm) := rfl
theorem over_e (w v m c s t k : Int) (nm : List UInt8) (a b d e f g i j : AV) : Fs.over [a, b, d, e, f, g, i, j] 0 (part w v m c s t k nm) = part w v m c s t k nm := rfl
theorem box_part (w v m c s t k : Int) (nm : List UInt8) (h : AH) : boxV (.agg (part w v m c s t k nm)) h = some (.ptr (some (h.n, 0)), h.push (.cells (part w v m c s t k nm) false)) := boxV_agg _ rfl
theorem dec_self (x : List UInt8) : decide (x = x) = true := by simp
theorem ne_self (b : Bool) : (!(b == b)) = false := by cases b <;> rfl

set_option maxRecDepth 100000 in
set_option maxHeartbeats 32000000 in
theorem back_spec {h0 : AH} {pieces : List UInt8 → List (List UInt8)} {atoiV : List UInt8 → Int} {sf : List UInt8 → Int × Bool} (ho : ∀ f, f ∈ [5, 20, 52, 53, 57, 23, 51, 24, 54, 61, 62, 63, 64, 65, 66, 67, 68, 106, 107, 108] → orc f = none)
    (ht : Trims orc) (hF : Flds orc h0) (hJ : Joins orc) (hT : Told orc h0) (hP : PTold orc h0 pieces atoiV sf) (A : RTold atoiV sf) (hp : ∀ W : List (List UInt8), W ≠ [] → W.all noB = true → pieces (Lib.join W [32]) = W) (hL : ∀ h, Grown h0 h → acall orc T 22 [] h = some (.bool true, h))
    (w v m c s t k : Int) (nm : List UInt8) (w' v' m' c' s' t' k' : Int) (nm' : List UInt8) (x : List UInt8) {h : AH} (hg : Grown h0 h) :
    acall orc T 5 [.agg (part w v m c s t k nm), .agg (part w' v' m' c' s' t' k' nm'), .str x] h = some (.bool true, h) := by
  have sub : ∀ l : List Nat, (∀ f ∈ l, f ∈ [5, 20, 52, 53, 57, 23, 51, 24, 54, 61, 62, 63, 64, 65, 66, 67, 68, 106, 107, 108]) → ∀ f, f ∈ l → orc f = none := fun l hl f hf => ho f (hl f hf)
  have cP := fun (w v m c s t k : Int) (nm : List UInt8) (hh : AH) (g : Grown h0 hh) => print_spec (orc := orc) (sub _ (by decide)) ht hF hJ hT w v m c s t k nm g
  have cR := fun (y : List UInt8) (hh : AH) (g : Grown h0 hh) => parse_spec (orc := orc) (sub _ (by decide)) ht hF hJ hT hP y g
  have cC := check_spec (orc := orc) (sub _ (by decide)) ht w v m c s t k nm
  have g0 := hg.1
  refine acall_sym (ho _ (by simp)) tbl5 ?_
  have hpp := prs_cases pieces atoiV sf x
  clear sub ht hF hJ hT hP ho
  dsimp only [List.length, List.replicate, List.append, List.cons_append, List.nil_append, Nat.reduceAdd, Nat.reduceSub]
  by_cases h1 : chk w v m c s t k nm = 0
  case neg =>
    have x1 : (chk w v m c s t k nm == 0) = false := by simpa using h1
    rcases hpp with ⟨aw, av, am, ac, az, at', ak, an, k1, k2, k3⟩ | ⟨e, k1, k3⟩
    · have x2 : (chk aw av am ac az at' ak an == 0) = true := by simp [k1]
      have x3 : ((0 : Int) != 0) = false := by decide
      subst k2
      (have fct := And.intro @cP (And.intro @cR (And.intro @cC (And.intro @hL (And.intro @hg (And.intro @Grown.low (And.intro @Grown.push (And.intro @Grown.set (And.intro @Nat.le_add_right_of_le (And.intro @g0 (And.intro @part_0 (And.intro @part_1 (And.intro @part_2 (And.intro @part_3 (And.intro @part_4 (And.intro @part_5 (And.intro @part_6 (And.intro @part_7 (And.intro @part_one (And.intro @box_part (And.intro @part_len (And.intro @part_take (And.intro @over_e (And.intro fsAstr (And.intro @x1 (And.intro @x2 (And.intro @x3 (And.intro @k1 (And.intro @k3 (And.intro @dec_self @ne_self))))))))))))))))))))))))))))); (repeat' with_reducible first | refine Red.to ?_ | refine A_any (k := ?_) | refine A_skip (k := ?_) | refine A_cond (k := ?_) | refine A_exne (k := ?_)); all_goals try clear fct)
      (simp only [DoneK, opsB, Nat.reduceEqDiff, Nat.reduceBEq, Nat.reduceBNe, Int.reduceBEq, Int.reduceBNe, Int.reduceLT, Int.reduceLE, Int.reduceEq, AV.one, AV.cells, CA.ev, abin, aint, aun, isShift, readVar, readCell, readCells, writeCells, fillA, reduceIte, Nat.reduceAdd, Nat.reduceSub, Nat.reduceLT, Nat.reduceLeDiff, resAll, resOne, AV.under, AV.unders, cut])
    · have x3 : (e != 0) = true := by simpa using k1
      have x2 : ((0 : Int) == 0) = true := rfl
      unfold zeroP at k3
      (have fct := And.intro @cP (And.intro @cR (And.intro @cC (And.intro @hL (And.intro @hg (And.intro @Grown.low (And.intro @Grown.push (And.intro @Grown.set (And.intro @Nat.le_add_right_of_le (And.intro @g0 (And.intro @part_0 (And.intro @part_1 (And.intro @part_2 (And.intro @part_3 (And.intro @part_4 (And.intro @part_5 (And.intro @part_6 (And.intro @part_7 (And.intro @part_one (And.intro @box_part (And.intro @part_len (And.intro @part_take (And.intro @over_e (And.intro fsAstr (And.intro @x1 (And.intro @x2 (And.intro @x3 (And.intro @k3 (And.intro @dec_self @ne_self)))))))))))))))))))))))))))); (repeat' with_reducible first | refine Red.to ?_ | refine A_any (k := ?_) | refine A_skip (k := ?_) | refine A_cond (k := ?_) | refine A_exne (k := ?_)); all_goals try clear fct)
      (simp only [DoneK, opsB, Nat.reduceEqDiff, Nat.reduceBEq, Nat.reduceBNe, Int.reduceBEq, Int.reduceBNe, Int.reduceLT, Int.reduceLE, Int.reduceEq, AV.one, AV.cells, CA.ev, abin, aint, aun, isShift, readVar, readCell, readCells, writeCells, fillA, reduceIte, Nat.reduceAdd, Nat.reduceSub, Nat.reduceLT, Nat.reduceLeDiff, resAll, resOne, AV.under, AV.unders, cut])
  case pos =>
  have kp := prs_back A hp h1
  have lp : decide ((80 : Int) < ((txtP w v m c s t k nm).length : Int)) = false := by have := txtP_len80 w v m c s t k nm; rw [decide_eq_false_iff_not]; omega
  have xp : (chk w v m c s t k nm == 0) = true := by simp [h1]
  have xq : ((0 : Int) != 0) = false := by decide
  rw [h1] at cC
  by_cases h2 : chk w' v' m' c' s' t' k' nm' = 0
  case neg =>
    have x1 : (chk w' v' m' c' s' t' k' nm' == 0) = false := by simpa using h2
    rcases hpp with ⟨aw, av, am, ac, az, at', ak, an, k1, k2, k3⟩ | ⟨e, k1, k3⟩
    · have x2 : (chk aw av am ac az at' ak an == 0) = true := by simp [k1]
      have x3 : ((0 : Int) != 0) = false := by decide
      subst k2
      (have fct := And.intro @cP (And.intro @cR (And.intro @cC (And.intro @hL (And.intro @hg (And.intro @Grown.low (And.intro @Grown.push (And.intro @Grown.set (And.intro @Nat.le_add_right_of_le (And.intro @g0 (And.intro @part_0 (And.intro @part_1 (And.intro @part_2 (And.intro @part_3 (And.intro @part_4 (And.intro @part_5 (And.intro @part_6 (And.intro @part_7 (And.intro @part_one (And.intro @box_part (And.intro @part_len (And.intro @part_take (And.intro @over_e (And.intro fsAstr (And.intro @x1 (And.intro @x2 (And.intro @x3 (And.intro @k1 (And.intro @k3 (And.intro @dec_self (And.intro @ne_self (And.intro @kp (And.intro @lp (And.intro @xp (And.intro @xq @h1)))))))))))))))))))))))))))))))))); (repeat' with_reducible first | refine Red.to ?_ | refine A_any (k := ?_) | refine A_skip (k := ?_) | refine A_cond (k := ?_) | refine A_exne (k := ?_)); all_goals try clear fct)
      (simp only [DoneK, opsB, Nat.reduceEqDiff, Nat.reduceBEq, Nat.reduceBNe, Int.reduceBEq, Int.reduceBNe, Int.reduceLT, Int.reduceLE, Int.reduceEq, AV.one, AV.cells, CA.ev, abin, aint, aun, isShift, readVar, readCell, readCells, writeCells, fillA, reduceIte, Nat.reduceAdd, Nat.reduceSub, Nat.reduceLT, Nat.reduceLeDiff, resAll, resOne, AV.under, AV.unders, cut])
    · have x3 : (e != 0) = true := by simpa using k1
      have x2 : ((0 : Int) == 0) = true := rfl
      unfold zeroP at k3
      (have fct := And.intro @cP (And.intro @cR (And.intro @cC (And.intro @hL (And.intro @hg (And.intro @Grown.low (And.intro @Grown.push (And.intro @Grown.set (And.intro @Nat.le_add_right_of_le (And.intro @g0 (And.intro @part_0 (And.intro @part_1 (And.intro @part_2 (And.intro @part_3 (And.intro @part_4 (And.intro @part_5 (And.intro @part_6 (And.intro @part_7 (And.intro @part_one (And.intro @box_part (And.intro @part_len (And.intro @part_take (And.intro @over_e (And.intro fsAstr (And.intro @x1 (And.intro @x2 (And.intro @x3 (And.intro @k3 (And.intro @dec_self (And.intro @ne_self (And.intro @kp (And.intro @lp (And.intro @xp (And.intro @xq @h1))))))))))))))))))))))))))))))))); (repeat' with_reducible first | refine Red.to ?_ | refine A_any (k := ?_) | refine A_skip (k := ?_) | refine A_cond (k := ?_) | refine A_exne (k := ?_)); all_goals try clear fct)
      (simp only [DoneK, opsB, Nat.reduceEqDiff, Nat.reduceBEq, Nat.reduceBNe, Int.reduceBEq, Int.reduceBNe, Int.reduceLT, Int.reduceLE, Int.reduceEq, AV.one, AV.cells, CA.ev, abin, aint, aun, isShift, readVar, readCell, readCells, writeCells, fillA, reduceIte, Nat.reduceAdd, Nat.reduceSub, Nat.reduceLT, Nat.reduceLeDiff, resAll, resOne, AV.under, AV.unders, cut])
  case pos =>
    have x1 : (chk w' v' m' c' s' t' k' nm' == 0) = true := by simp [h2]
    have x4 := txt_same A hp h1 h2
    rcases hpp with ⟨aw, av, am, ac, az, at', ak, an, k1, k2, k3⟩ | ⟨e, k1, k3⟩
    · have x2 : (chk aw av am ac az at' ak an == 0) = true := by simp [k1]
      have x3 : ((0 : Int) != 0) = false := by decide
      subst k2
      (have fct := And.intro @cP (And.intro @cR (And.intro @cC (And.intro @hL (And.intro @hg (And.intro @Grown.low (And.intro @Grown.push (And.intro @Grown.set (And.intro @Nat.le_add_right_of_le (And.intro @g0 (And.intro @part_0 (And.intro @part_1 (And.intro @part_2 (And.intro @part_3 (And.intro @part_4 (And.intro @part_5 (And.intro @part_6 (And.intro @part_7 (And.intro @part_one (And.intro @box_part (And.intro @part_len (And.intro @part_take (And.intro @over_e (And.intro fsAstr (And.intro @x1 (And.intro @x2 (And.intro @x3 (And.intro @k1 (And.intro @k3 (And.intro @dec_self (And.intro @ne_self (And.intro @x4 (And.intro @kp (And.intro @lp (And.intro @xp (And.intro @xq @h1))))))))))))))))))))))))))))))))))); (repeat' with_reducible first | refine Red.to ?_ | refine A_any (k := ?_) | refine A_skip (k := ?_) | refine A_cond (k := ?_) | refine A_exne (k := ?_)); all_goals try clear fct)
      (simp only [DoneK, opsB, Nat.reduceEqDiff, Nat.reduceBEq, Nat.reduceBNe, Int.reduceBEq, Int.reduceBNe, Int.reduceLT, Int.reduceLE, Int.reduceEq, AV.one, AV.cells, CA.ev, abin, aint, aun, isShift, readVar, readCell, readCells, writeCells, fillA, reduceIte, Nat.reduceAdd, Nat.reduceSub, Nat.reduceLT, Nat.reduceLeDiff, resAll, resOne, AV.under, AV.unders, cut])
    · have x3 : (e != 0) = true := by simpa using k1
      have x2 : ((0 : Int) == 0) = true := rfl
      unfold zeroP at k3
      (have fct := And.intro @cP (And.intro @cR (And.intro @cC (And.intro @hL (And.intro @hg (And.intro @Grown.low (And.intro @Grown.push (And.intro @Grown.set (And.intro @Nat.le_add_right_of_le (And.intro @g0 (And.intro @part_0 (And.intro @part_1 (And.intro @part_2 (And.intro @part_3 (And.intro @part_4 (And.intro @part_5 (And.intro @part_6 (And.intro @part_7 (And.intro @part_one (And.intro @box_part (And.intro @part_len (And.intro @part_take (And.intro @over_e (And.intro fsAstr (And.intro @x1 (And.intro @x2 (And.intro @x3 (And.intro @k3 (And.intro @dec_self (And.intro @ne_self (And.intro @x4 (And.intro @kp (And.intro @lp (And.intro @xp (And.intro @xq @h1)))))))))))))))))))))))))))))))))); (repeat' with_reducible first | refine Red.to ?_ | refine A_any (k := ?_) | refine A_skip (k := ?_) | refine A_cond (k := ?_) | refine A_exne (k := ?_)); all_goals try clear fct)
      (simp only [DoneK, opsB, Nat.reduceEqDiff, Nat.reduceBEq, Nat.reduceBNe, Int.reduceBEq, Int.reduceBNe, Int.reduceLT, Int.reduceLE, Int.reduceEq, AV.one, AV.cells, CA.ev, abin, aint, aun, isShift, readVar, readCell, readCells, writeCells, fillA, reduceIte, Nat.reduceAdd, Nat.reduceSub, Nat.reduceLT, Nat.reduceLeDiff, resAll, resOne, AV.under, AV.unders, cut])
end Go.Proofs.Ef
