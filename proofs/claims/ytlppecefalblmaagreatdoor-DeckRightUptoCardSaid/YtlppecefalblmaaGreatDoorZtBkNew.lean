/- New books; a card's copy of the statements' own. -/
import Derived.Test.YtlppecefalblmaaGreatDoorFz05
import Derived.Test.YtlppecefalblmaaGreatDoorZtBkPure
namespace Go.Proofs.Cards
set_option maxRecDepth 100000
set_option maxHeartbeats 32000000
open Go Go.Fs
set_option linter.unusedSimpArgs false
set_option linter.unusedVariables false
variable {orc : Orc}
def cf60 : CF := ⟨3, [(.tmp 0)], (.seq (.region [Zo 0 (.mv (.c (.ptr none)))]) (.seq (.region [Zo 1 (.build [(.bool false), (.bool false), (.slice none 0 (.exact 0)), (.str []), (.str []), (.str []), (.str []), (.str []), (.str []), (.str []), (.str []), (.str []), (.int .u8 0), (.str []), (.int .i64 0), (.int .i64 0), (.int .u8 0), (.str []), (.int .i64 0), (.int .i64 0), (.int .u8 0), (.str []), (.int .i64 0), (.int .i64 0), (.int .u8 0), (.str []), (.int .i64 0), (.int .i64 0), (.int .u8 0), (.str []), (.int .i64 0), (.int .i64 0)] [(0, (1, (.c (.bool true))))]), Zo 2 (.box (.t 1)), Zm 0 2]) .ret))⟩
def cf62 : CF := ⟨8, [(.cell 2 (some 9))], (.seq (.region [Zo 1 (.box (.t 0)), Zo 2 (.alloc [(.str []), (.int .u8 0), (.int .u8 0), (.int .i64 0), (.int .i64 0), (.int .i64 0), (.int .u16 0), (.bool false), (.slice none 0 (.exact 0))])]) (.seq (.region [Zf 3 8 1, Zl 4 3, Zo 5 (.call (.f 57) [(.t 4)]), Zf 6 8 1, Zn (.store 1 (.t 6) (.t 5))]) (.seq (.region [Zo 7 (.load (some 9) (.t 1)), Zn (.store 9 (.t 2) (.t 7))]) .ret)))⟩
theorem tbl60 : tbl Tryz.prog 60 = some cf60 := by kernel_rfl
theorem tbl62 : tbl Tryz.prog 62 = some cf62 := by kernel_rfl
def mark0 : Mrk := ⟨0, [], 0, 0⟩
def marks0 : List Mrk := List.replicate 5 mark0
def bk0 : List AV := bkC false 0 (List.replicate 64 zeroV) marks0
def bkZ : List AV := [.bool false, .bool false, .int .i64 0] ++ (List.replicate 64 zeroV).flatMap Cv.cells ++ tlB marks0
theorem tblNew : tbl Tryz.prog 59 = some ⟨3, [.tmp 0], .seq (.region [⟨some 0, .mv (.c (.ptr none)), none⟩]) (.seq (.region [⟨some 1, .build bkZ [(0, 1, .c (.bool true))], none⟩, ⟨some 2, .box (.t 1), none⟩, ⟨some 0, .mv (.t 2), none⟩]) .ret)⟩ := by kernel_rfl
theorem bkZ_len : (1 ≤ bkZ.length) = True := by decide +kernel
theorem bnew_spec (ho : orc 59 = none) (h : AH) : acall orc T 59 [] h = some (.ptr (some (h.n, 0)), (h.push (.cells bk0 false)).withLow (min h.low h.n)) := by
 have e : ∃ v1 h1, acall orc T 59 [] h = some (v1, h1) ∧ v1 = .ptr (some (h.n, 0)) ∧ h1 = (h.push (.cells bk0 false)).withLow (min h.low h.n) := by
  refine acall_facts (R := fun v1 h1 => v1 = .ptr (some (h.n, 0)) ∧ h1 = (h.push (.cells bk0 false)).withLow (min h.low h.n)) ho tblNew ?_
  refine GD ?_
  have bx : ∀ (hh : AH), boxV (.agg bk0) hh = some (.ptr (some (hh.n, 0)), hh.push (.cells bk0 false)) := fun hh => boxV_agg _ (bk_one _ _ _ _)
  have ov : Fs.over bkZ 0 [.bool true] = bk0 := rfl
  have l1 := bkZ_len
  (have fct := Fj @ov (Fj @bx @l1); refine GO ?_; clear fct)
  refine ⟨.inr rfl, .ptr (some (h.n, 0)), rfl, ?_⟩
  rw [settle_new (by simp [AV.under])]
  exact ⟨rfl, rfl⟩
 obtain ⟨v1, h1, e1, rfl, rfl⟩ := e
 exact e1
theorem rnew_spec (ho : orc 60 = none) (h : AH) : acall orc T 60 [] h = some (.ptr (some (h.n, 0)), (h.push (.cells (rbC false nilV marks0) false)).withLow (min h.low h.n)) := by
 have e : ∃ v1 h1, acall orc T 60 [] h = some (v1, h1) ∧ v1 = .ptr (some (h.n, 0)) ∧ h1 = (h.push (.cells (rbC false nilV marks0) false)).withLow (min h.low h.n) := by
  refine acall_facts (R := fun v1 h1 => v1 = .ptr (some (h.n, 0)) ∧ h1 = (h.push (.cells (rbC false nilV marks0) false)).withLow (min h.low h.n)) ho tbl60 ?_
  refine GD ?_
  have bx : ∀ (hh : AH), boxV (.agg (rbC false nilV marks0)) hh = some (.ptr (some (hh.n, 0)), hh.push (.cells (rbC false nilV marks0) false)) := fun hh => boxV_agg _ rfl
  have ov : Fs.over [AV.bool false, AV.bool false, AV.slice none 0 (.exact 0), AV.str [], AV.str [], AV.str [], AV.str [], AV.str [], AV.str [], AV.str [], AV.str [], AV.str [], AV.int .u8 0, AV.str [], AV.int .i64 0, AV.int .i64 0, AV.int .u8 0, AV.str [], AV.int .i64 0, AV.int .i64 0, AV.int .u8 0, AV.str [], AV.int .i64 0, AV.int .i64 0, AV.int .u8 0, AV.str [], AV.int .i64 0, AV.int .i64 0, AV.int .u8 0, AV.str [], AV.int .i64 0, AV.int .i64 0] 0 [.bool true] = rbC false nilV marks0 := rfl
  (have fct := Fj @ov @bx; refine GO ?_; clear fct)
  refine ⟨.inr rfl, .ptr (some (h.n, 0)), rfl, ?_⟩
  rw [settle_new (by simp [AV.under])]
  exact ⟨rfl, rfl⟩
 obtain ⟨v1, h1, e1, rfl, rfl⟩ := e
 exact e1
theorem cpc_spec (N : Nat) (ho : orc 62 = none) (ho2 : orc 57 = none) (c : Crd) (v : AV) (ps : List Prt) {h : AH} (hN : N ≤ h.n) (hp : Parts h v ps) (hl : ps.length * 40 ≤ 140737488355328) :
    ∃ v1 h1, acall orc T 62 [.agg (c.cells v)] h = some (v1, h1) ∧ ∃ v', v1 = .agg (c.cells v') ∧ Ef.Kp N h h1 ∧ Parts h1 v' ps ∧ Own h.n h1 v' ps := by
 refine acall_facts (R := fun v1 h1 => ∃ v', v1 = .agg (c.cells v') ∧ Ef.Kp N h h1 ∧ Parts h1 v' ps ∧ Own h.n h1 v' ps) ho tbl62 ?_
 simp only [Ef.settle_fst1]
 have hp0 := hp
 obtain ⟨a, cap, rfl, hbig, _⟩ := hp
 have bx : ∀ (hh : AH), boxV (.agg (c.cells (.slice a ps.length cap))) hh = some (.ptr (some (hh.n, 0)), hh.push (.cells (c.cells (.slice a ps.length cap)) false)) := fun hh => boxV_agg _ rfl
 have x8 : (c.cells (.slice a ps.length cap))[8]? = some (.slice a ps.length cap) := rfl
 have hp2 : Parts (((h.withLow h.n).push (.cells (c.cells (.slice a ps.length cap)) false)).push (.cells (zeroC.cells nilV) false)) (.slice a ps.length cap) ps := hp0.mono (by simp; omega) fun b hb => by rw [Hp.get_push_ne _ _ _ (by simp; omega), Hp.get_push_ne _ _ _ (by simp; omega)]; rfl
 refine GD ?_
 simp only [show ([AV.str [], AV.int .u8 0, AV.int .u8 0, AV.int .i64 0, AV.int .i64 0, AV.int .i64 0, AV.int .u16 0, AV.bool false, AV.slice none 0 (.exact 0)] : List AV) = zeroC.cells nilV from rfl]
 have y1 : (h.n + 1 = h.n) = False := by simp
 have y2 : (h.n = h.n + 1) = False := by simp
 (have fct := Fj @bx (Fj @x8 (Fj @y1 @y2)); refine GO ?_; clear fct)
 refine R_ex (by simp (maxDischargeDepth := 12) only [opsB, Nat.reduceEqDiff, Nat.reduceBEq, Nat.reduceBNe, Int.reduceBEq, Int.reduceBNe, Int.reduceLT, Int.reduceLE, Int.reduceEq, AV.one, AV.cells, CA.ev, abin, aint, aun, isShift, readVar, readCell, readCells, writeCells, fillA, reduceIte, Nat.reduceAdd, Nat.reduceSub, Nat.reduceLT, Nat.reduceLeDiff, resAll, resOne, AV.under, AV.unders, cut]; (first | done | with_reducible rfl)) (copy_spec ho2 hp2 hl) fun v1 h1 hh => ?_
 rcases hh with ⟨rfl, rfl, rfl⟩ | ⟨hne, rfl, hn1, hg1, ho1, hl1⟩
 · refine A_tm ?_
   have z5 : (c.cells (.slice none 0 (.exact 0))).all AV.one = true := rfl
   (have fct := Fj @x8 (Fj @ov_8 (Fj @y1 (Fj @y2 (Fj @z5 (Fj @cells_len (Fj @cells_take @ov_9)))))); refine GO ?_; clear fct)
   refine ⟨.inr rfl, _, res_card rfl (Hp.get_set_self _ _ _), nilV, rfl, Ef.kp_settle (by simp <;> omega) (fun b hb => ?_) (by simp <;> omega), ⟨_, _, rfl, by simp, .inl rfl⟩, .inl ⟨rfl, rfl⟩⟩
   rw [Hp.get_set_ne _ _ _ _ (by omega), Hp.get_set_ne _ _ _ _ (by omega), Hp.get_push_ne _ _ _ (by simp; omega), Hp.get_push_ne _ _ _ (by simp; omega)]; rfl
 · refine A_tm ?_
   simp only [Hp.n_push, Hp.n_withLow, Hp.low_push, Hp.low_withLow] at hn1 hg1 ho1 hl1
   have hx1 : h1.get h.n = some (.cells (c.cells (.slice a ps.length cap)) false) := by
    rw [ho1 h.n (by omega), Hp.get_push_ne _ _ _ (by simp)]; exact Hp.get_push_self _ _
   have hx2 : h1.get (h.n + 1) = some (.cells (zeroC.cells nilV) false) := by
    rw [ho1 (h.n + 1) (by omega)]; exact Hp.get_push_self _ _
   simp only [Hp.n_push, Hp.n_withLow]
   have z5 : (c.cells (.slice (some (h.n + 1 + 1, 0)) ps.length (.opn 8))).all AV.one = true := rfl
   (have fct := Fj @x8 (Fj @hx1 (Fj @hx2 (Fj @ov_8 (Fj @y1 (Fj @y2 (Fj @z5 (Fj @cells_len (Fj @cells_take @ov_9)))))))); refine GO ?_; clear fct)
   have hun : (AV.agg (c.cells (.slice (some (h.n + 1 + 1, 0)) ps.length (.opn 8)))).under h.n = false := by
    simp [AV.under, AV.unders, Crd.cells]; omega
   have gg : ∀ b, b ≠ h.n → b ≠ h.n + 1 → ∀ x y, ((h1.set h.n x).set (h.n + 1) y).get b = h1.get b := fun b q1 q2 x y => by
    rw [Hp.get_set_ne _ _ _ _ q2, Hp.get_set_ne _ _ _ _ q1]
   refine ⟨.inr rfl, _, res_card rfl (Hp.get_set_self _ _ _), _, rfl, Ef.kp_settle (by simp <;> omega) (fun b hb => ?_) (by simp <;> omega), ?_, ?_⟩
   · rw [gg b (by omega) (by omega), ho1 b (by omega), Hp.get_push_ne _ _ _ (by simp; omega), Hp.get_push_ne _ _ _ (by simp; omega)]; rfl
   · rw [settle_new hun]
     refine parts_block (ps := ps) (qs := []) (ro := false) ?_ (by simp; omega) rfl (by omega)
     rw [List.append_nil, Hp.get_withLow, gg _ (by omega) (by omega)]
     exact hg1
   · rw [settle_new hun]
     refine .inr ⟨h.n + 1 + 1, by omega, by simp; omega, rfl, ?_, hne⟩
     rw [Hp.get_withLow, gg _ (by omega) (by omega)]
     exact hg1
end Go.Proofs.Cards
