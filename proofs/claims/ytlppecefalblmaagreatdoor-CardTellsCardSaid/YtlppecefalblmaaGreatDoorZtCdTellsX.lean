/- The law CardTells, walked: ahead of the region of open order, the region, behind it. -/
import Derived.Test.YtlppecefalblmaaGreatDoorFz05
import Derived.Test.YtlppecefalblmaaGreatDoorFz05
import Derived.Test.YtlppecefalblmaaGreatDoorFz06
import Derived.Test.YtlppecefalblmaaGreatDoorZtCdTellsW
namespace Go.Proofs.Cards
set_option maxRecDepth 100000
set_option maxHeartbeats 32000000
open Go Go.Fs
set_option linter.unusedSimpArgs false
set_option linter.unusedVariables false
variable {orc : Orc}
def cc3_0 : CC := (.region [Zo 1 (.box (.t 0)), Zo 2 (.mv (.c (.bool false)))])
def cc3_1 : CC := (.region [Zo 14 (.load (some 9) (.t 1)), Zo 15 (.call (.f 7) [(.t 14)]), Zm 13 15, Ze 16 0 13, Ze 17 1 13, Zo 3 (.alloc [(.str []), (.int .u8 0), (.int .u8 0), (.int .i64 0), (.int .i64 0), (.int .i64 0), (.int .u16 0), (.bool false), (.slice none 0 (.exact 0))]), Zn (.store 9 (.t 3) (.t 16)), Zm 4 17])
def cc3_2 : CC := (.region [Zo 18 (.load (some 9) (.t 3)), Zo 19 (.call (.f 8) [(.t 18)]), Zm 5 19])
def cc3_3 : CC := (.region [Zo 21 (.load (some 9) (.t 3)), Zo 22 (.call (.f 9) [(.t 21)]), Zm 20 22, Ze 23 0 20, Ze 24 1 20, Zm 6 23, Zm 7 24])
def cc3_5 : CC := (.seq (.region [Zo 29 (.load (some 9) (.t 3)), Zo 30 (.call (.f 11) [(.t 29)]), Zm 10 30]) (.seq (.region [Zo 32 (.load (some 9) (.t 1)), Zo 33 (.call (.f 12) [(.t 32)]), Zm 31 33, Ze 34 0 31, Ze 35 1 31, Zm 11 34, Zm 12 35]) (.seq (.seq (.region [Zm 36 5, Zo 37 (.load (some 9) (.t 1)), Zo 38 (.call (.f 13) [(.t 37)]), Zb 39 .neq (.t 36) (.t 38), Zm 40 39, Zg 41 (.mv (.t 7)) 40 false, Zg 42 (.mv (.t 12)) 40 false, Zg 43 (.bin .neq .other (.t 41) (.t 42)) 40 false, Zo 44 (.pick (.t 40) (.c (.bool true)) (.t 43)), Zm 45 44, Zg 46 (.mv (.t 6)) 45 false, Zg 47 (.mv (.t 11)) 45 false, Zg 48 (.bin .neq .other (.t 46) (.t 47)) 45 false, Zo 49 (.pick (.t 45) (.c (.bool true)) (.t 48)), Zm 50 49, Zg 51 (.mv (.t 10)) 50 false, Zg 52 (.load (some 9) (.t 1)) 50 false, Zg 53 (.call (.f 14) [(.t 52)]) 50 false, Zg 54 (.bin .neq .scal (.t 51) (.t 53)) 50 false, Zo 55 (.pick (.t 50) (.c (.bool true)) (.t 54)), Zm 56 55, Zg 57 (.mv (.t 4)) 56 false, Zg 58 (.faddr 8 (.t 1)) 56 false, Zg 59 (.load none (.t 58)) 56 false, Zg 60 (.call (.f 15) [(.t 57), (.t 59)]) 56 false, Zg 61 (.un .not (.t 60)) 56 false, Zo 62 (.pick (.t 56) (.c (.bool true)) (.t 61))]) (.cond (.t 62) (.seq (.region [Zo 2 (.mv (.c (.bool false)))]) .ret) .skip)) (.seq (.region [Zm 63 4, Zo 64 (.call (.f 16) [(.t 63)])]) (.seq (.region [Zo 65 (.load (some 9) (.t 8)), Zo 66 (.load (some 9) (.t 1)), Zo 67 (.call (.f 17) [(.t 65), (.t 66)]), Zm 68 67, Zg 69 (.load (some 9) (.t 9)) 68 true, Zg 70 (.load (some 9) (.t 1)) 68 true, Zg 71 (.call (.f 17) [(.t 69), (.t 70)]) 68 true, Zo 72 (.pick (.t 68) (.t 71) (.c (.bool false))), Zm 73 72, Zg 74 (.mv (.t 4)) 73 true, Zg 75 (.faddr 8 (.t 8)) 73 true, Zg 76 (.load none (.t 75)) 73 true, Zg 77 (.faddr 8 (.t 9)) 73 true, Zg 78 (.load none (.t 77)) 73 true, Zg 79 (.litS 1 3 [(.slice none 0 (.exact 0))] [(0, (1, (.t 74))), (1, (1, (.t 76))), (2, (1, (.t 78)))]) 73 true, Zg 80 (.call (.f 18) [(.t 79)]) 73 true, Zo 81 (.pick (.t 73) (.t 80) (.c (.bool false))), Zm 2 81]) .ret)))))
def codeId : Code → Nat | .region i _ _ => i | _ => 0
noncomputable def k0 : Code := codeOf Tryz.prog 3
noncomputable def k1 : Code := codeR k0
noncomputable def k2 : Code := codeR k1
noncomputable def k3 : Code := codeR k2
noncomputable def k4 : Code := codeR k3
noncomputable def k5 : Code := codeR k4
theorem e0 : k0 = .seq (codeL k0) k1 := by kernel_rfl
theorem e1 : k1 = .seq (codeL k1) k2 := by kernel_rfl
theorem e2 : k2 = .seq (codeL k2) k3 := by kernel_rfl
theorem e3 : k3 = .seq (codeL k3) k4 := by kernel_rfl
theorem e4 : k4 = .seq (.region (codeId (codeL k4)) (codeOps (codeL k4)) true) k5 := by kernel_rfl
theorem c0 : cC Tryz.prog (codeL k0) = cc3_0 := by kernel_rfl
theorem c1 : cC Tryz.prog (codeL k1) = cc3_1 := by kernel_rfl
theorem c2 : cC Tryz.prog (codeL k2) = cc3_2 := by kernel_rfl
theorem c3 : cC Tryz.prog (codeL k3) = cc3_3 := by kernel_rfl
theorem c4 : (codeOps (codeL k4)).toList.mapM (cOper Tryz.prog (codeOps (codeL k4))) = some cs3 := by kernel_rfl
theorem d4 : depsOf (codeOps (codeL k4)) = deps3 := by kernel_rfl
theorem c5 : cC Tryz.prog k5 = cc3_5 := by kernel_rfl
def LPost (h : AH) (ex : AEx) (tm' : List AV) (h1 : AH) : Prop := (ex = .normal ∨ ex = .ret) ∧ resAll tm' h1 [.tmp 2] = some (.bool true) ∧ h.n ≤ h1.n ∧ h.n ≤ h1.low
theorem own_parts {N : Nat} {X : AH} {v : AV} {ps : List Prt} (o : Own N X v ps) (hl : ps.length ≤ 1152921504606846976) : Parts X v ps := by
 rcases o with ⟨rfl, rfl⟩ | ⟨b, _, h2, rfl, h4, _⟩
 · exact ⟨_, _, rfl, by simp, .inl rfl⟩
 · exact ⟨_, _, rfl, hl, .inr ⟨b, 0, _, false, rfl, h2, h4, fun i p hp => flat_cut hp⟩⟩
theorem Own.away {N : Nat} {X Y : AH} {v : AV} {ps : List Prt} (o : Own N X v ps) (hn : X.n ≤ Y.n) (hY : ∀ b, N ≤ b → b < X.n → Y.get b = X.get b) : Own N Y v ps := by
 rcases o with o | ⟨b, o1, o2, o3, o4, o5⟩
 · exact .inl o
 · exact .inr ⟨b, o1, by omega, o3, by rw [hY b o1 o2]; exact o4, o5⟩
theorem apart_three (hap : orc 18 = some (apartOrc 8)) {H : AH} {bL r N n : Nat} {u v : AV} {ps : List Prt} {cs : List AV} (hn : n ≤ 1152921504606846976) (hr : H.get r = some (.cells cs false)) (hcs : cs.length = n * 8)
    (hL : H.get bL = some (.cells [.slice (some (r, 0)) n (.exact n), u, v] false)) (hrN : r < N) (hu : Own N H u ps) (hv : Own N H v ps) (huv : ps = [] ∨ u ≠ v) (hbL : ∀ b, b < bL → True) (hbn : H.n ≤ bL + 1) (hbL2 : bL < H.n) (hbr : r < bL) :
    ∃ H', acall orc T 18 [.slice (some (bL, 0)) 3 (.exact 3)] H = some (.bool true, H') ∧ H'.n = H.n ∧ (∀ M, M ≤ r → M ≤ H.low → M ≤ H'.low) := by
 have a0 : apartRow 8 H nilV = some none := rfl
 have ar : apartRow 8 H (.slice (some (r, 0)) n (.exact n)) = some (some r) := by
  unfold apartRow; simp only [hr]; rw [if_pos ⟨Nat.le_refl _, hcs, hn⟩]
 rcases hu with ⟨rfl, rfl⟩ | ⟨p, u1, u2, rfl, u4, u5⟩
 · obtain rfl : v = nilV := by
     rcases hv with ⟨_, e⟩ | ⟨q, v1, v2, e, v4, v5⟩
     · exact e
     · exact absurd rfl v5
   refine ⟨Hp.sets [(bL, .dead), (r, .dead)] H, acall_orc hap ?_, by simp [Hp.sets], fun M h1 h2 => ?_⟩
   · unfold apartOrc
     simp only [hL]
     rw [if_pos ⟨rfl, by decide⟩]
     simp only [List.mapM_cons, List.mapM_nil, ar, a0, Option.pure_def, Option.bind_eq_bind, Option.bind_some]
     rw [if_pos (by simp; omega)]
     rfl
   · simp only [Hp.sets, Hp.low_set]; omega
 · rcases hv with ⟨rfl, rfl⟩ | ⟨q, v1, v2, rfl, v4, v5⟩
   · exact absurd rfl u5
   · have fl := flat_len ps
     have hpq : p ≠ q := by
      rcases huv with h | h
      · exact absurd h u5
      · intro e; exact h (by rw [e])
     have hpL : p ≠ bL := by
      intro e
      rw [e, hL] at u4
      simp only [Option.some.injEq, Blk.cells.injEq, and_true] at u4
      rw [← u4] at fl
      simp at fl
      omega
     have hqL : q ≠ bL := by
      intro e
      rw [e, hL] at v4
      simp only [Option.some.injEq, Blk.cells.injEq, and_true] at v4
      rw [← v4] at fl
      simp at fl
      omega
     have b1 : apartRow 8 H (.slice (some (p, 0)) ps.length (.opn 8)) = some (some p) := by
      unfold apartRow; simp only [u4]; rw [if_pos ⟨trivial, fl⟩]
     have b2 : apartRow 8 H (.slice (some (q, 0)) ps.length (.opn 8)) = some (some q) := by
      unfold apartRow; simp only [v4]; rw [if_pos ⟨trivial, fl⟩]
     refine ⟨Hp.sets [(bL, .dead), (r, .dead), (p, .dead), (q, .dead)] H, acall_orc hap ?_, by simp [Hp.sets], fun M h1 h2 => ?_⟩
     · unfold apartOrc
       simp only [hL]
       rw [if_pos ⟨rfl, by decide⟩]
       simp only [List.mapM_cons, List.mapM_nil, ar, b1, b2, Option.pure_def, Option.bind_eq_bind, Option.bind_some]
       rw [if_pos (by simp; omega)]
       rfl
     · simp only [Hp.sets, Hp.low_set]; omega
theorem tells_walk (hm : Tryz.prog.follows .mixedOrders = true) (ho : GoodOrc Tryz.prog orc) {h0 : AH} (c : Crd) (v : AV) (ps : List Prt) {h : AH} (hg : Grown h0 h) (hp : Parts h v ps) (hl : (ps.length + 2) * 40 ≤ 140737488355328)
    (hL : ∀ (H : AH), Parts H v ps → ∃ v' h', acall orc T 7 [.agg (c.cells v)] H = some (v', h') ∧ LentC H c ps v' h')
    (hK : ∀ (v : AV) (H : AH), Parts H v ps → acall orc T 8 [.agg (c.cells v)] H = some (.int .i64 (chkC c ps), H))
    (hP : ∀ (v : AV) (H : AH), Parts H v ps → Grown h0 H → acall orc T 9 [.agg (c.cells v)] H = some (.tuple [.str (txtC c ps), .int .i64 (chkC c ps)], H))
    (hC : ∀ (v : AV) (X : AH), Parts X v ps → h.n ≤ X.n → ∃ v1 h1, acall orc T 10 [.agg (c.cells v)] X = some (v1, h1) ∧ ∃ v', v1 = .agg (c.cells v') ∧ Ef.Kp h.n X h1 ∧ Parts h1 v' ps ∧ Own X.n h1 v' ps)
    (hM : ∀ (v : AV) (H : AH), Parts H v ps → acall orc T 11 [.agg (c.cells v)] H = some (.bool (ps.any meansP), H))
    (hRM : ∀ (v : AV) (H : AH), Parts H v ps → acall orc T 14 [.agg (c.cells v)] H = some (.bool (ps.any meansP), H))
    (hRP : ∀ (v : AV) (H : AH), Parts H v ps → Grown h0 H → acall orc T 12 [.agg (c.cells v)] H = some (.tuple [.str (txtC c ps), .int .i64 (chkC c ps)], H))
    (hRK : ∀ (v : AV) (H : AH), Parts H v ps → acall orc T 13 [.agg (c.cells v)] H = some (.int .i64 (chkC c ps), H))
    (hKp : ∀ (f v : AV) (H : AH), Parts H f (ps ++ [mark, mark]) → Parts H v ps → acall orc T 15 [f, v] H = some (.bool (decide (ps ++ [mark, mark] = ps ++ [mark, mark])), H))
    (hO : ∀ (b n : Nat) (cs : List AV) (h : AH), h.get b = some (.cells cs false) → cs.length = n * 8 → b < h.n → n ≤ 1152921504606846976 →
      ∃ v1 h1, acall orc T 16 [.slice (some (b, 0)) n (.exact n)] h = some (v1, h1) ∧ h1.n = h.n ∧ (∀ b', b' ≠ b → h1.get b' = h.get b') ∧ (∃ cs', h1.get b = some (.cells cs' false) ∧ cs'.length = n * 8) ∧ min h.low b ≤ h1.low)
    (hS : ∀ (v u : AV) (H : AH), Parts H v ps → Parts H u ps → acall orc T 17 [.agg (c.cells v), .agg (c.cells u)] H = some (.bool (decide (ps = ps) && decide (c = c)), H))
    (hap : orc 18 = some (apartOrc 8)) :
    CWP Tryz.prog k0 (LPost h) ([.agg (c.cells v)] ++ List.replicate (82 - 1) AV.undef) (h.withLow h.n) := by
 have hp0 := hp
 obtain ⟨a, cap, rfl, hbig, _⟩ := hp
 have bx : ∀ (hh : AH), boxV (.agg (c.cells (.slice a ps.length cap))) hh = some (.ptr (some (hh.n, 0)), hh.push (.cells (c.cells (.slice a ps.length cap)) false)) := fun hh => boxV_agg _ rfl
 rw [e0]
 refine CWP.next hm ho c0 ?_
 unfold cc3_0
 refine GD ?_
 (have fct := @bx; refine GO ?_; clear fct)
 refine ⟨rfl, ?_⟩
 rw [e1]
 refine CWP.next hm ho c1 ?_
 unfold cc3_1
 refine GD ?_
 (have fct := Fj @cells_len @cells_take; refine GO ?_; clear fct)
 have pH : Parts ((h.withLow h.n).push (.cells (c.cells (.slice a ps.length cap)) false)) (.slice a ps.length cap) ps := hp0.mono (by simp) fun b hb => by rw [Hp.get_push_ne _ _ _ (by simp; omega)]; rfl
 refine R_ex (by simp (maxDischargeDepth := 12) only [opsB, Nat.reduceEqDiff, Nat.reduceBEq, Nat.reduceBNe, Int.reduceBEq, Int.reduceBNe, Int.reduceLT, Int.reduceLE, Int.reduceEq, AV.one, AV.cells, CA.ev, abin, aint, aun, isShift, readVar, readCell, readCells, writeCells, fillA, reduceIte, Nat.reduceAdd, Nat.reduceSub, Nat.reduceLT, Nat.reduceLeDiff, resAll, resOne, AV.under, AV.unders, cut]; (first | done | with_reducible rfl)) (hL _ pH) fun v1 h1 hh => ?_
 obtain ⟨s1, s2, rfl, q1, q2, q3, q4, q5, rfl, rfl, q8, q9⟩ := hh
 simp only [Hp.n_push, Hp.n_withLow, Hp.low_push, Hp.low_withLow] at q3 q4 q5 q8 q9
 refine A_tm ?_
 simp only [show ([AV.str [], AV.int .u8 0, AV.int .u8 0, AV.int .i64 0, AV.int .i64 0, AV.int .i64 0, AV.int .u16 0, AV.bool false, AV.slice none 0 (.exact 0)] : List AV) = zeroC.cells nilV from rfl]
 simp only [Hp.n_push, Hp.n_withLow]
 have z1 : (c.cells (.slice (some (h.n + 1 + 2, 0)) ps.length (.exact (ps.length + 2)))).all AV.one = true := rfl
 (have fct := Fj @z1 (Fj @cells_len (Fj @cells_take @ov_9)); refine GO ?_; clear fct)
 have B : Bs h0 h c (.slice a ps.length cap) ps h.n (h.n + 1 + 2) h1.n ((h1.push (.cells (zeroC.cells nilV) false)).set h1.n (.cells (c.cells (.slice (some (h.n + 1 + 2, 0)) ps.length (.exact (ps.length + 2)))) false)) := by
  have g : ∀ b, b < h1.n → ((h1.push (.cells (zeroC.cells nilV) false)).set h1.n (.cells (c.cells (.slice (some (h.n + 1 + 2, 0)) ps.length (.exact (ps.length + 2)))) false)).get b = h1.get b := fun b hb => by
   rw [Hp.get_set_ne _ _ _ _ (by omega), Hp.get_push_ne _ _ _ (by omega)]
  refine ⟨hg, by simp; omega, by simp; omega, fun b hb => ?_, ?_, Hp.get_set_self _ _ _, ?_⟩
  · rw [g b (by omega), q4 b (by omega), Hp.get_push_ne _ _ _ (by simp; omega)]; rfl
  · rw [g _ (by omega), q4 _ (by omega)]; exact Hp.get_push_self _ _
  · rw [g _ (by omega)]; exact q9
 generalize ((h1.push (.cells (zeroC.cells nilV) false)).set h1.n (.cells (c.cells (.slice (some (h.n + 1 + 2, 0)) ps.length (.exact (ps.length + 2)))) false)) = X at B ⊢
 generalize h1.n = b3 at B ⊢
 generalize h.n + 1 + 2 = r at B ⊢
 clear q1 q2 q3 q4 q5 q8 q9 z1 pH bx
 have hl1 : ps.length * 40 ≤ 140737488355328 := by omega
 have pv := B.parts hp0
 have pl := B.lent hl1
 have pf := B.full hl1
 have x1 := B.x1
 have x3 := B.x3
 refine ⟨rfl, ?_⟩
 rw [e2]
 refine CWP.next hm ho c2 ?_
 unfold cc3_2
 refine GD ?_
 have f1 := hK _ _ pl
 (have fct := Fj @x3 (Fj @f1 (Fj @cells_len @cells_take)); refine GO ?_; clear fct)
 refine ⟨rfl, ?_⟩
 rw [e3]
 refine CWP.next hm ho c3 ?_
 unfold cc3_3
 refine GD ?_
 have f2 := hP _ _ pl B.grown
 (have fct := Fj @x3 (Fj @f2 (Fj @cells_len @cells_take)); refine GO ?_; clear fct)
 refine ⟨rfl, ?_⟩
 rw [e4]
 refine CWP.setN hm ho c4 d4 (by decide) (Inv h0 h c (.slice a ps.length cap) ps h.n r b3) (fun i ds L tm X hd hds hi I => region_step hl1 (fun X hX hn => hC _ X hX hn) i ds L tm X hd hds hi I) ?_ ?_
 · exact ⟨⟨rfl, rfl, rfl, rfl, rfl, rfl, rfl⟩, B, .inl ⟨rfl, rfl, ⟨(fun h => by cases h), (fun h => by cases h), (fun h => by cases h), (fun h => by cases h), (fun h => by cases h), (fun h => by cases h), (fun h => by cases h), (fun h => by cases h)⟩⟩⟩
 clear B pv pl pf x1 x3 f1 f2 X
 intro L tm X hall I
 obtain ⟨TT, B, J⟩ := I
 have l7 : L 7 = true := hall 7 (by decide)
 replace J : Al c ps b3 tm X 1 := by
  rcases J with ⟨_, l, _⟩ | ⟨_, l, _⟩ | ⟨_, _, J⟩
  · rw [l7] at l; cases l
  · rw [l7] at l; cases l
  · exact J
 clear hall l7 L
 obtain ⟨v1, v2, b8, b9, a1, o1, a2, o2, ne, p8, q8, r8, p9, q9, r9, n89, g8, g9⟩ := J
 rw [if_neg (by decide)] at g9
 have pv := B.parts hp0
 have pl := B.lent hl1
 have pf := B.full hl1
 have x1 := B.x1
 have x3 := B.x3
 have ao := B.ord
 have lo := B.low
 have el := TT.len
 have t1 := TT.t1
 have t3 := TT.t3
 have t4 := TT.t4
 have t5 := TT.t5
 have t6 := TT.t6
 have t7 := TT.t7
 clear TT a1 a2
 refine CWP.last hm ho c5 ?_
 unfold cc3_5
 refine GD ?_
 have f1 := hM _ _ pl
 have f2 := hRP _ _ pv B.grown
 have f3 := hRK _ _ pv
 have f4 := hRM _ _ pv
 have f5 := hKp _ _ _ pf pv
 rw [kept_ok] at f5
 have n1 : (chkC c ps != chkC c ps) = false := bne_self_eq_false _
 have n2 : decide (txtC c ps = txtC c ps) = true := by simp
 have n3 : ∀ b : Bool, (b != b) = false := fun b => by cases b <;> rfl
 have n4 : (c.cells (.slice a ps.length cap))[8]? = some (.slice a ps.length cap) := rfl
 generalize ps.any meansP = bm at *
 cases bm
 all_goals
  (have fct := Fj @el (Fj @t1 (Fj @t3 (Fj @t4 (Fj @t5 (Fj @t6 (Fj @t7 (Fj @p8 (Fj @p9 (Fj @x1 (Fj @x3 (Fj @f1 (Fj @f2 (Fj @f3 (Fj @f4 (Fj @f5 (Fj @n1 (Fj @n2 (Fj @n3 (Fj @n4 (Fj fsAstr (Fj @cells_len @cells_take))))))))))))))))))))); refine GO ?_; clear fct)
  refine R_ex (by simp (maxDischargeDepth := 12) only [opsB, Nat.reduceEqDiff, Nat.reduceBEq, Nat.reduceBNe, Int.reduceBEq, Int.reduceBNe, Int.reduceLT, Int.reduceLE, Int.reduceEq, AV.one, AV.cells, CA.ev, abin, aint, aun, isShift, readVar, readCell, readCells, writeCells, fillA, reduceIte, Nat.reduceAdd, Nat.reduceSub, Nat.reduceLT, Nat.reduceLeDiff, resAll, resOne, AV.under, AV.unders, cut, el, t4, fsTm, Nat.reduceBEq, Nat.reduceLT]; (first | done | with_reducible rfl)) (hO r (ps.length + 2) _ X B.row (by rw [length_pcells]; simp; omega) (by omega) (by omega)) fun w1 Y hh => ?_
  generalize hT : put _ _ _ = tm2
  have el2 : tm2.length = 82 := by rw [← hT]; simp only [put, fsTm, Nat.reduceBEq, Nat.reduceLT, el]
  have u1 : tm2.getD 1 AV.undef = .ptr (some (h.n, 0)) := by rw [← hT]; simp only [put, fsTm, Nat.reduceBEq, Nat.reduceLT, el, t1]
  have u4 : tm2.getD 4 AV.undef = .slice (some (r, 0)) (ps.length + 2) (.exact (ps.length + 2)) := by rw [← hT]; simp only [put, fsTm, Nat.reduceBEq, Nat.reduceLT, el, t4]
  have u8 : tm2.getD 8 AV.undef = .ptr (some (b8, 0)) := by rw [← hT]; simp only [put, fsTm, Nat.reduceBEq, Nat.reduceLT, el, p8]
  have u9 : tm2.getD 9 AV.undef = .ptr (some (b9, 0)) := by rw [← hT]; simp only [put, fsTm, Nat.reduceBEq, Nat.reduceLT, el, p9]
  clear hT
  obtain ⟨yn, yg, ⟨cs', yr, yl⟩, ylo⟩ := hh
  have pvY : Parts Y (.slice a ps.length cap) ps := hp0.mono (by omega) fun b hb => by rw [yg b (by omega)]; exact B.old b hb
  have o1Y : Own (b3 + 1) Y v1 ps := o1.away (by omega) fun b hb _ => yg b (by omega)
  have o2Y : Own (b3 + 1) Y v2 ps := o2.away (by omega) fun b hb _ => yg b (by omega)
  have g8Y := (yg b8 (by omega)).trans g8
  have g9Y := (yg b9 (by omega)).trans g9
  have x1Y := (yg h.n (by omega)).trans x1
  have f6 := hS _ _ Y (own_parts o1Y (by omega)) pvY
  have f7 := hS _ _ Y (own_parts o2Y (by omega)) pvY
  have s1 : (decide (ps = ps) && decide (c = c)) = true := by simp
  rw [s1] at f6 f7
  clear f1 f2 f3 f4 f5 pv pl pf x1 x3 g8 g9 o1 o2
  obtain ⟨ua, ul, uc, rfl⟩ : ∃ a n cap, v1 = .slice a n cap := by
   rcases o1Y with ⟨_, rfl⟩ | ⟨_, _, _, rfl, _⟩
   · exact ⟨_, _, _, rfl⟩
   · exact ⟨_, _, _, rfl⟩
  obtain ⟨wa, wl, wc, rfl⟩ : ∃ a n cap, v2 = .slice a n cap := by
   rcases o2Y with ⟨_, rfl⟩ | ⟨_, _, _, rfl, _⟩
   · exact ⟨_, _, _, rfl⟩
   · exact ⟨_, _, _, rfl⟩
  have pY : ∀ b, b < Y.n → (Y.push (.cells [.slice (some (r, 0)) (ps.length + 2) (.exact (ps.length + 2)), .slice ua ul uc, .slice wa wl wc] false)).get b = Y.get b := fun b hb => Hp.get_push_ne _ _ _ (by omega)
  obtain ⟨Z, z0, zn, zl⟩ := apart_three (orc := orc) hap (H := Y.push (.cells [.slice (some (r, 0)) (ps.length + 2) (.exact (ps.length + 2)), .slice ua ul uc, .slice wa wl wc] false)) (bL := Y.n) (r := r) (N := b3 + 1) (n := ps.length + 2) (u := .slice ua ul uc) (v := .slice wa wl wc) (ps := ps) (cs := cs')
   (by omega) (by rw [pY _ (by omega)]; exact yr) yl (Hp.get_push_self _ _) (by omega) (o1Y.away (by simp) fun b _ hb => pY b hb) (o2Y.away (by simp) fun b _ hb => pY b hb) ne (fun _ _ => trivial) (by simp) (by simp) (by omega)
  have m1 : (c.cells (.slice ua ul uc))[8]? = some (.slice ua ul uc) := rfl
  have m2 : (c.cells (.slice wa wl wc))[8]? = some (.slice wa wl wc) := rfl
  (have fct := Fj @el2 (Fj @u1 (Fj @u4 (Fj @u8 (Fj @u9 (Fj @x1Y (Fj @g8Y (Fj @g9Y (Fj @f6 (Fj @f7 (Fj @m1 (Fj @m2 (Fj @z0 (Fj @cells_len (Fj @cells_take (Fj @op_litS (Fj fsReps @Fs.over.eq_1)))))))))))))))); refine GO ?_; clear fct)
  refine ⟨.inr rfl, ?_, by rw [zn]; simp; omega, zl _ (by omega) (by simp; omega)⟩
  simp [resAll, resOne, el2]
end Go.Proofs.Cards
