/- The law CardBack, walked. (Under way.) -/
import Derived.Test.YtjmhjipacmlojaaGreatDoorFz06
import Derived.Test.YtjmhjipacmlojaaGreatDoorZcCdPlain
namespace Go.Proofs.Cards
open Go Go.Fs
set_option linter.unusedSimpArgs false
set_option linter.unusedVariables false
variable {orc : Orc}
def cf7 : CF := ⟨90, [(.tmp 6)], (.seq (.region [⟨(some 3), (.box (.t 0)), none⟩, ⟨(some 4), (.box (.t 1)), none⟩, ⟨(some 6), (.mv (.c (.bool false))), none⟩]) (.seq (.region [⟨(some 18), (.load (some 9) (.t 3)), none⟩, ⟨(some 19), (.call (.f 10) [(.t 18)]), none⟩, ⟨(some 17), (.mv (.t 19)), none⟩, ⟨(some 20), (.ext 0 (.t 17)), none⟩, ⟨(some 21), (.ext 1 (.t 17)), none⟩, ⟨(some 7), (.mv (.t 20)), none⟩, ⟨(some 8), (.mv (.t 21)), none⟩]) (.seq (.region [⟨(some 23), (.load (some 9) (.t 4)), none⟩, ⟨(some 24), (.call (.f 10) [(.t 23)]), none⟩, ⟨(some 22), (.mv (.t 24)), none⟩, ⟨(some 25), (.ext 0 (.t 22)), none⟩, ⟨(some 26), (.ext 1 (.t 22)), none⟩, ⟨(some 9), (.mv (.t 25)), none⟩, ⟨(some 10), (.mv (.t 26)), none⟩]) (.seq (.seq (.region [⟨(some 27), (.mv (.t 8)), none⟩, ⟨(some 28), (.bin .eql .other (.t 27) (.c (.int .i64 0))), none⟩]) (.cond (.t 28) (.seq (.region [⟨(some 30), (.mv (.t 7)), none⟩, ⟨(some 31), (.call (.f 25) [(.t 30)]), none⟩, ⟨(some 29), (.mv (.t 31)), none⟩, ⟨(some 32), (.ext 0 (.t 29)), none⟩, ⟨(some 33), (.ext 1 (.t 29)), none⟩, ⟨(some 11), (.alloc [(.str []), (.int .u8 0), (.int .u8 0), (.int .i64 0), (.int .i64 0), (.int .i64 0), (.int .u16 0), (.bool false), (.slice none 0 (.exact 0))]), none⟩, ⟨none, (.store 9 (.t 11) (.t 32)), none⟩, ⟨(some 12), (.mv (.t 33)), none⟩]) (.seq (.region [⟨(some 34), (.mv (.t 12)), none⟩, ⟨(some 35), (.bin .neq .other (.t 34) (.c (.int .i64 0))), none⟩, ⟨(some 36), (.mv (.t 35)), none⟩, ⟨(some 37), (.load (some 9) (.t 11)), (some (36, false))⟩, ⟨(some 38), (.load (some 9) (.t 3)), (some (36, false))⟩, ⟨(some 39), (.call (.f 18) [(.t 37), (.t 38)]), (some (36, false))⟩, ⟨(some 40), (.un .not (.t 39)), (some (36, false))⟩, ⟨(some 41), (.pick (.t 36) (.c (.bool true)) (.t 40)), none⟩, ⟨(some 42), (.mv (.t 41)), none⟩, ⟨(some 43), (.mv (.t 7)), (some (42, false))⟩, ⟨(some 44), (.lenS (.t 43)), (some (42, false))⟩, ⟨(some 45), (.bin .gtr .other (.t 44) (.c (.int .i64 512))), (some (42, false))⟩, ⟨(some 46), (.pick (.t 42) (.c (.bool true)) (.t 45)), none⟩]) (.cond (.t 46) (.seq (.region [⟨(some 6), (.mv (.c (.bool false))), none⟩]) .ret) .skip))) .skip)) (.seq (.seq (.region [⟨(some 47), (.mv (.t 8)), none⟩, ⟨(some 48), (.bin .eql .other (.t 47) (.c (.int .i64 0))), none⟩, ⟨(some 49), (.mv (.t 48)), none⟩, ⟨(some 50), (.mv (.t 10)), (some (49, true))⟩, ⟨(some 51), (.bin .eql .other (.t 50) (.c (.int .i64 0))), (some (49, true))⟩, ⟨(some 52), (.pick (.t 49) (.t 51) (.c (.bool false))), none⟩, ⟨(some 53), (.mv (.t 52)), none⟩, ⟨(some 54), (.mv (.t 7)), (some (53, true))⟩, ⟨(some 55), (.mv (.t 9)), (some (53, true))⟩, ⟨(some 56), (.bin .eql .other (.t 54) (.t 55)), (some (53, true))⟩, ⟨(some 57), (.load (some 9) (.t 3)), (some (53, true))⟩, ⟨(some 58), (.load (some 9) (.t 4)), (some (53, true))⟩, ⟨(some 59), (.call (.f 18) [(.t 57), (.t 58)]), (some (53, true))⟩, ⟨(some 60), (.bin .neq .scal (.t 56) (.t 59)), (some (53, true))⟩, ⟨(some 61), (.pick (.t 53) (.t 60) (.c (.bool false))), none⟩]) (.cond (.t 61) (.seq (.region [⟨(some 6), (.mv (.c (.bool false))), none⟩]) .ret) .skip)) (.seq (.region [⟨(some 63), (.mv (.t 2)), none⟩, ⟨(some 64), (.call (.f 25) [(.t 63)]), none⟩, ⟨(some 62), (.mv (.t 64)), none⟩, ⟨(some 65), (.ext 0 (.t 62)), none⟩, ⟨(some 66), (.ext 1 (.t 62)), none⟩, ⟨(some 13), (.alloc [(.str []), (.int .u8 0), (.int .u8 0), (.int .i64 0), (.int .i64 0), (.int .i64 0), (.int .u16 0), (.bool false), (.slice none 0 (.exact 0))]), none⟩, ⟨none, (.store 9 (.t 13) (.t 65)), none⟩, ⟨(some 14), (.mv (.t 66)), none⟩]) (.seq (.seq (.region [⟨(some 67), (.mv (.t 14)), none⟩, ⟨(some 68), (.bin .neq .other (.t 67) (.c (.int .i64 0))), none⟩]) (.cond (.t 68) (.seq (.region [⟨(some 69), (.call (.f 27) []), none⟩, ⟨(some 6), (.mv (.t 69)), none⟩]) .ret) .skip)) (.seq (.region [⟨(some 71), (.load (some 9) (.t 13)), none⟩, ⟨(some 72), (.call (.f 10) [(.t 71)]), none⟩, ⟨(some 70), (.mv (.t 72)), none⟩, ⟨(some 73), (.ext 0 (.t 70)), none⟩, ⟨(some 74), (.ext 1 (.t 70)), none⟩, ⟨(some 15), (.mv (.t 73)), none⟩, ⟨(some 16), (.mv (.t 74)), none⟩]) (.seq (.region [⟨(some 75), (.mv (.t 16)), none⟩, ⟨(some 76), (.bin .eql .other (.t 75) (.c (.int .i64 0))), none⟩, ⟨(some 77), (.mv (.t 76)), none⟩, ⟨(some 78), (.mv (.t 15)), (some (77, true))⟩, ⟨(some 79), (.mv (.t 2)), (some (77, true))⟩, ⟨(some 80), (.bin .eql .other (.t 78) (.t 79)), (some (77, true))⟩, ⟨(some 81), (.pick (.t 77) (.t 80) (.c (.bool false))), none⟩, ⟨(some 82), (.mv (.t 81)), none⟩, ⟨(some 83), (.load (some 9) (.t 13)), (some (82, true))⟩, ⟨(some 84), (.call (.f 9) [(.t 83)]), (some (82, true))⟩, ⟨(some 85), (.bin .eql .other (.t 84) (.c (.int .i64 0))), (some (82, true))⟩, ⟨(some 86), (.pick (.t 82) (.t 85) (.c (.bool false))), none⟩, ⟨(some 87), (.mv (.t 86)), none⟩, ⟨(some 88), (.call (.f 27) []), (some (87, true))⟩, ⟨(some 89), (.pick (.t 87) (.t 88) (.c (.bool false))), none⟩, ⟨(some 6), (.mv (.t 89)), none⟩]) .ret)))))))))⟩
theorem tbl7 : tbl Tryz.prog 7 = some cf7 := by kernel_rfl
/-- The state of the law: both cards in their boxes. -/
structure LS (h0 hB : AH) (c d : Crd) (v u : AV) (ps qs : List Prt) (H : AH) : Prop where
  gr : Grown h0 H
  pv : Parts H v ps
  pu : Parts H u qs
  b0 : H.get hB.n = some (.cells (c.cells v) false)
  b1 : H.get (hB.n + 1) = some (.cells (d.cells u) false)
  low : hB.n ≤ H.low
  n : hB.n + 1 < H.n
theorem LS.kp {h0 hB H h1 : AH} {c d : Crd} {v u : AV} {ps qs : List Prt} (S : LS h0 hB c d v u ps qs H) (k : Ef.Kp hB.n H h1) : LS h0 hB c d v u ps qs h1 := by
  have hn := S.n
  exact ⟨Ef.Grown.kp S.gr k, S.pv.mono k.n k.get, S.pu.mono k.n k.get, by rw [k.get _ (by omega)]; exact S.b0, by rw [k.get _ (by omega)]; exact S.b1, k.low (by omega) S.low, by have := k.n; omega⟩
theorem LS.push {h0 hB H : AH} {c d : Crd} {v u : AV} {ps qs : List Prt} (S : LS h0 hB c d v u ps qs H) (b : Blk) : LS h0 hB c d v u ps qs (H.push b) := by
  have hn := S.n
  exact ⟨S.gr.push _, S.pv.mono (by simp) fun b hb => Hp.get_push_ne _ _ _ (by omega), S.pu.mono (by simp) fun b hb => Hp.get_push_ne _ _ _ (by omega), by rw [Hp.get_push_ne _ _ _ (by omega)]; exact S.b0, by rw [Hp.get_push_ne _ _ _ (by omega)]; exact S.b1, S.low, by simp; omega⟩

set_option maxRecDepth 100000 in
set_option maxHeartbeats 16000000 in
theorem law_walk {h0 : AH} {pieces : List UInt8 → List (List UInt8)} {atoiV : List UInt8 → Int} {sf : List UInt8 → Int × Bool} (ho : orc 7 = none) (c d : Crd) (v u : AV) (ps qs : List Prt) (s : List UInt8) {h : AH} (hg : Grown h0 h) (hp : Parts h v ps) (hq : Parts h u qs)
    (hP : ∀ (c : Crd) (v : AV) (ps : List Prt) (h : AH), Parts h v ps → Grown h0 h → acall orc T 10 [.agg (c.cells v)] h = some (.tuple [.str (txtC c ps), .int .i64 (chkC c ps)], h))
    (hR : ∀ (s : List UInt8) (H : AH), Grown h0 H → ∃ v1 h1, acall orc T 25 [.str s] H = some (v1, h1) ∧ Ef.Kp h.n H h1 ∧
      ((GoodC pieces atoiV sf s ∧ ∃ v, v1 = .tuple [.agg ((headCard atoiV sf s).cells v), .int .i64 0] ∧ Parts h1 v (finOf pieces atoiV sf s).2) ∨
       (¬ GoodC pieces atoiV sf s ∧ ∃ e, e ≠ 0 ∧ v1 = .tuple [.agg (zeroC.cells nilV), .int .i64 e])))
    (hS : ∀ (c d : Crd) (v u : AV) (ps qs : List Prt) (h : AH), Parts h v ps → Parts h u qs → acall orc T 18 [.agg (c.cells v), .agg (d.cells u)] h = some (.bool (decide (ps = qs) && decide (c = d)), h))
    (hK : ∀ (c : Crd) (v : AV) (ps : List Prt) (h : AH), Parts h v ps → Grown h0 h → acall orc T 9 [.agg (c.cells v)] h = some (.int .i64 (chkC c ps), h))
    (hA : ∀ (h : AH), Grown h0 h → acall orc T 27 [] h = some (.bool true, h))
    (hB : ∀ (c : Crd) (ps : List Prt), chkC c ps = 0 → GoodC pieces atoiV sf (txtC c ps) ∧ headCard atoiV sf (txtC c ps) = c ∧ finOf pieces atoiV sf (txtC c ps) = (true, ps)) :
    acall orc T 7 [.agg (c.cells v), .agg (d.cells u), .str s] h = some (.bool true, h) := by
  refine acall_sym ho tbl7 ?_
  obtain ⟨a, cap, rfl⟩ : ∃ a cap, v = .slice a ps.length cap := by obtain ⟨a, cap, e, _⟩ := hp; exact ⟨a, cap, e⟩
  obtain ⟨a', cap', rfl⟩ : ∃ a cap, u = .slice a qs.length cap := by obtain ⟨a, cap, e, _⟩ := hq; exact ⟨a, cap, e⟩
  have bx1 : ∀ (hh : AH), boxV (.agg (c.cells (.slice a ps.length cap))) hh = some (.ptr (some (hh.n, 0)), hh.push (.cells (c.cells (.slice a ps.length cap)) false)) := fun hh => boxV_agg _ rfl
  have bx2 : ∀ (hh : AH), boxV (.agg (d.cells (.slice a' qs.length cap'))) hh = some (.ptr (some (hh.n, 0)), hh.push (.cells (d.cells (.slice a' qs.length cap')) false)) := fun hh => boxV_agg _ rfl
  dsimp only [List.length, List.replicate, List.append, List.cons_append, List.nil_append, Nat.reduceAdd, Nat.reduceSub]
  (have fct := And.intro @bx1 @bx2; (repeat' with_reducible first | refine Red.to ?_ | refine A_any (k := ?_) | refine A_skip (k := ?_) | refine A_cond (k := ?_) | refine A_dcons (k := ?_) | refine A_dstill (k := ?_) | refine A_dwanted (k := ?_) | refine A_dnil (k := ?_) | refine A_exne (k := ?_)); all_goals try clear fct)
  refine R_heap (LS h0 h c d (.slice a ps.length cap) (.slice a' qs.length cap') ps qs) ?_ (fun H I => ?_)
  · refine ⟨((hg.low _).push _).push _, hp.mono (by simp; omega) (fun b hb => ?_), hq.mono (by simp; omega) (fun b hb => ?_), ?_, Hp.get_push_self _ _, by simp, by simp⟩
    · rw [Hp.get_push_ne _ _ _ (by simp; omega), Hp.get_push_ne _ _ _ (by simp; omega)]; rfl
    · rw [Hp.get_push_ne _ _ _ (by simp; omega), Hp.get_push_ne _ _ _ (by simp; omega)]; rfl
    · rw [Hp.get_push_ne _ _ _ (by simp)]; exact Hp.get_push_self _ _
  have k0 := I.b0
  have k1 := I.b1
  have p1 := hP c (.slice a ps.length cap) ps H I.pv I.gr
  have p2 := hP d (.slice a' qs.length cap') qs H I.pu I.gr
  by_cases hc : chkC c ps = 0
  case pos =>
    have x1 : (chkC c ps == 0) = true := by simp [hc]
    (have fct := And.intro @k0 (And.intro @k1 (And.intro @p1 (And.intro @p2 (And.intro @x1 (And.intro @cells_len @cells_take))))); (repeat' with_reducible first | refine Red.to ?_ | refine A_any (k := ?_) | refine A_skip (k := ?_) | refine A_cond (k := ?_) | refine A_dcons (k := ?_) | refine A_dstill (k := ?_) | refine A_dwanted (k := ?_) | refine A_dnil (k := ?_) | refine A_exne (k := ?_)); all_goals try clear fct)
    obtain ⟨G1, G2, G3⟩ := hB c ps hc
    obtain ⟨z1, h1, q1, q2, q3⟩ := hR (txtC c ps) H I.gr
    have I2 := I.kp q2
    have hn2 := I2.n
    rcases q3 with ⟨_, w, rfl, hw⟩ | ⟨hG, _⟩
    case inr => exact absurd G1 hG
    rw [G2] at q1
    rw [G3] at hw
    obtain ⟨wa, wc, rfl⟩ : ∃ a cap, w = .slice a ps.length cap := by obtain ⟨a, cap, e, _⟩ := hw; exact ⟨a, cap, e⟩
    have z6 : ∀ x1 x2 x3 x4 x5 x6 x7 x8 x9 : AV, Fs.over [x1, x2, x3, x4, x5, x6, x7, x8, x9] 0 (c.cells (.slice wa ps.length wc)) = c.cells (.slice wa ps.length wc) := fun _ _ _ _ _ _ _ _ _ => rfl
    have z5 : (c.cells (.slice wa ps.length wc)).all AV.one = true := rfl
    have x5 : ((0 : Int) != 0) = false := rfl
    have I3 : LS h0 h c d (.slice a ps.length cap) (.slice a' qs.length cap') ps qs ((h1.push (.cells [.str [], .int .u8 0, .int .u8 0, .int .i64 0, .int .i64 0, .int .i64 0, .int .u16 0, .bool false, .slice none 0 (.exact 0)] false)).set h1.n (.cells (c.cells (.slice wa ps.length wc)) false)) := by
      refine ⟨(I2.gr.push _).set (by have := I2.gr.1; omega) _, I2.pv.mono (by simp) fun b hb => ?_, I2.pu.mono (by simp) fun b hb => ?_, ?_, ?_, by have := I2.low; simp; omega, by simp; omega⟩
      · rw [Hp.get_set_ne _ _ _ _ (by omega), Hp.get_push_ne _ _ _ (by omega)]
      · rw [Hp.get_set_ne _ _ _ _ (by omega), Hp.get_push_ne _ _ _ (by omega)]
      · rw [Hp.get_set_ne _ _ _ _ (by omega), Hp.get_push_ne _ _ _ (by omega)]; exact I2.b0
      · rw [Hp.get_set_ne _ _ _ _ (by omega), Hp.get_push_ne _ _ _ (by omega)]; exact I2.b1
    have hw2 : Parts ((h1.push (.cells [.str [], .int .u8 0, .int .u8 0, .int .i64 0, .int .i64 0, .int .i64 0, .int .u16 0, .bool false, .slice none 0 (.exact 0)] false)).set h1.n (.cells (c.cells (.slice wa ps.length wc)) false)) (.slice wa ps.length wc) ps := hw.mono (by simp) fun b hb => by rw [Hp.get_set_ne _ _ _ _ (by omega), Hp.get_push_ne _ _ _ (by omega)]
    have sz := hS c c _ _ _ _ _ hw2 I3.pv
    have x8 : (decide (ps = ps) && decide (c = c)) = true := by simp
    rw [x8] at sz
    have l5 : decide ((512 : Int) < ((txtC c ps).length : Int)) = false := by have := G1.1; rw [decide_eq_false_iff_not]; omega
    have y1 : (h.n = h1.n) = False := by simp; omega
    have y2 : (h.n + 1 = h1.n) = False := by simp; omega
    have k2 := I2.b0
    (have fct := And.intro @q1 (And.intro @x1 (And.intro @x5 (And.intro @z5 (And.intro @z6 (And.intro @sz (And.intro @l5 (And.intro @k2 (And.intro @y1 (And.intro @y2 (And.intro @cells_len @cells_take)))))))))); (repeat' with_reducible first | refine Red.to ?_ | refine A_any (k := ?_) | refine A_skip (k := ?_) | refine A_cond (k := ?_) | refine A_dcons (k := ?_) | refine A_dstill (k := ?_) | refine A_dwanted (k := ?_) | refine A_dnil (k := ?_) | refine A_exne (k := ?_)); all_goals try clear fct)
    refine R_heap (LS h0 h c d (.slice a ps.length cap) (.slice a' qs.length cap') ps qs) I3 (fun H4 I4 => ?_)
    clear I3 hw2 sz k2 q1 q2 I2 hw y1 y2 hn2 z5 z6 k0 k1 p1 p2 I
    have k0 := I4.b0
    have k1 := I4.b1
    have sd := hS c d _ _ _ _ _ I4.pv I4.pu
    have hneq : ∀ b : Bool, (b != b) = false := fun b => by cases b <;> rfl
    by_cases hd : chkC d qs = 0
    case pos =>
      have x9 : (chkC d qs == 0) = true := by simp [hd]
      have xy : decide (txtC c ps = txtC d qs) = (decide (ps = qs) && decide (c = d)) := by
        obtain ⟨_, D2, D3⟩ := hB d qs hd
        rw [Bool.eq_iff_iff]
        simp only [Bool.and_eq_true, decide_eq_true_eq]
        constructor
        · intro e
          rw [e] at G2 G3
          exact ⟨(Prod.mk.inj (G3.symm.trans D3)).2, G2.symm.trans D2⟩
        · rintro ⟨rfl, rfl⟩; rfl
      generalize (decide (ps = qs) && decide (c = d)) = B at *
      cases B
      all_goals
        (have fct := And.intro @k0 (And.intro @k1 (And.intro @x1 (And.intro @x9 (And.intro @sd (And.intro @xy (And.intro fsAstr (And.intro @hneq (And.intro @cells_len @cells_take)))))))); (repeat' with_reducible first | refine Red.to ?_ | refine A_any (k := ?_) | refine A_skip (k := ?_) | refine A_cond (k := ?_) | refine A_dcons (k := ?_) | refine A_dstill (k := ?_) | refine A_dwanted (k := ?_) | refine A_dnil (k := ?_) | refine A_exne (k := ?_)); all_goals try clear fct)
        generalize H4 = H at *
        have I := I4
        obtain ⟨z1, h1, q1, q2, q3⟩ := hR s H I.gr
        have I2 := I.kp q2
        have hn2 := I2.n
        rcases q3 with ⟨hG, w, rfl, hw⟩ | ⟨hG, e, he, rfl⟩
        · obtain ⟨wa, wc, rfl⟩ : ∃ a cap, w = .slice a (finOf pieces atoiV sf s).2.length cap := by obtain ⟨a, cap, e, _⟩ := hw; exact ⟨a, cap, e⟩
          have hw2 : Parts ((h1.push (.cells [.str [], .int .u8 0, .int .u8 0, .int .i64 0, .int .i64 0, .int .i64 0, .int .u16 0, .bool false, .slice none 0 (.exact 0)] false)).set h1.n (.cells ((headCard atoiV sf s).cells (.slice wa (finOf pieces atoiV sf s).2.length wc)) false)) (.slice wa (finOf pieces atoiV sf s).2.length wc) (finOf pieces atoiV sf s).2 := hw.mono (by simp) fun b hb => by rw [Hp.get_set_ne _ _ _ _ (by omega), Hp.get_push_ne _ _ _ (by omega)]
          have g2 : Grown h0 ((h1.push (.cells [.str [], .int .u8 0, .int .u8 0, .int .i64 0, .int .i64 0, .int .i64 0, .int .u16 0, .bool false, .slice none 0 (.exact 0)] false)).set h1.n (.cells ((headCard atoiV sf s).cells (.slice wa (finOf pieces atoiV sf s).2.length wc)) false)) := (I2.gr.push _).set (by have := I2.gr.1; omega) _
          have pz := hP (headCard atoiV sf s) _ _ _ hw2 g2
          have kz := hK (headCard atoiV sf s) _ _ _ hw2 g2
          have az := hA _ g2
          rw [hG.2.2.1] at pz kz
          rw [hG.2.2.2] at pz
          have x5 : ((0 : Int) != 0) = false := rfl
          have x6 : ((0 : Int) == 0) = true := rfl
          have x7 : decide (s = s) = true := by simp
          have z5 : ((headCard atoiV sf s).cells (.slice wa (finOf pieces atoiV sf s).2.length wc)).all AV.one = true := rfl
          have z6 : ∀ x1 x2 x3 x4 x5 x6 x7 x8 x9 : AV, Fs.over [x1, x2, x3, x4, x5, x6, x7, x8, x9] 0 ((headCard atoiV sf s).cells (.slice wa (finOf pieces atoiV sf s).2.length wc)) = (headCard atoiV sf s).cells (.slice wa (finOf pieces atoiV sf s).2.length wc) := fun _ _ _ _ _ _ _ _ _ => rfl
          (have fct := And.intro @q1 (And.intro @pz (And.intro @kz (And.intro @az (And.intro @x5 (And.intro @x6 (And.intro @x7 (And.intro fsAstr (And.intro @z5 (And.intro @z6 (And.intro @cells_len @cells_take)))))))))); (repeat' with_reducible first | refine Red.to ?_ | refine A_any (k := ?_) | refine A_skip (k := ?_) | refine A_cond (k := ?_) | refine A_dcons (k := ?_) | refine A_dstill (k := ?_) | refine A_dwanted (k := ?_) | refine A_dnil (k := ?_) | refine A_exne (k := ?_)); all_goals try clear fct)
          (simp only [DoneK, opsB, Nat.reduceEqDiff, Nat.reduceBEq, Nat.reduceBNe, Int.reduceBEq, Int.reduceBNe, Int.reduceLT, Int.reduceLE, Int.reduceEq, AV.one, AV.cells, CA.ev, abin, aint, aun, isShift, readVar, readCell, readCells, writeCells, fillA, reduceIte, Nat.reduceAdd, Nat.reduceSub, Nat.reduceLT, Nat.reduceLeDiff, resAll, resOne, AV.under, AV.unders, cut])
          exact ⟨I2.low, by omega⟩
        · have x5 : (e != 0) = true := by simpa using he
          have az := hA ((h1.push (.cells (zeroC.cells nilV) false)).set h1.n (.cells (zeroC.cells nilV) false)) ((I2.gr.push _).set (by have := I2.gr.1; omega) _)
          simp only [show ([AV.str [], AV.int .u8 0, AV.int .u8 0, AV.int .i64 0, AV.int .i64 0, AV.int .i64 0, AV.int .u16 0, AV.bool false, AV.slice none 0 (.exact 0)] : List AV) = zeroC.cells nilV from rfl]
          (have fct := And.intro @q1 (And.intro @az (And.intro @x5 (And.intro @ov_9 (And.intro @cells_len (And.intro @cells_take @cells_one))))); (repeat' with_reducible first | refine Red.to ?_ | refine A_any (k := ?_) | refine A_skip (k := ?_) | refine A_cond (k := ?_) | refine A_dcons (k := ?_) | refine A_dstill (k := ?_) | refine A_dwanted (k := ?_) | refine A_dnil (k := ?_) | refine A_exne (k := ?_)); all_goals try clear fct)
          (simp only [DoneK, opsB, Nat.reduceEqDiff, Nat.reduceBEq, Nat.reduceBNe, Int.reduceBEq, Int.reduceBNe, Int.reduceLT, Int.reduceLE, Int.reduceEq, AV.one, AV.cells, CA.ev, abin, aint, aun, isShift, readVar, readCell, readCells, writeCells, fillA, reduceIte, Nat.reduceAdd, Nat.reduceSub, Nat.reduceLT, Nat.reduceLeDiff, resAll, resOne, AV.under, AV.unders, cut])
          exact ⟨I2.low, by omega⟩
    case neg =>
      have x9 : (chkC d qs == 0) = false := by simpa using hd
      (have fct := And.intro @k0 (And.intro @k1 (And.intro @x1 (And.intro @x9 (And.intro @cells_len @cells_take)))); (repeat' with_reducible first | refine Red.to ?_ | refine A_any (k := ?_) | refine A_skip (k := ?_) | refine A_cond (k := ?_) | refine A_dcons (k := ?_) | refine A_dstill (k := ?_) | refine A_dwanted (k := ?_) | refine A_dnil (k := ?_) | refine A_exne (k := ?_)); all_goals try clear fct)
      generalize H4 = H at *
      have I := I4
      obtain ⟨z1, h1, q1, q2, q3⟩ := hR s H I.gr
      have I2 := I.kp q2
      have hn2 := I2.n
      rcases q3 with ⟨hG, w, rfl, hw⟩ | ⟨hG, e, he, rfl⟩
      · obtain ⟨wa, wc, rfl⟩ : ∃ a cap, w = .slice a (finOf pieces atoiV sf s).2.length cap := by obtain ⟨a, cap, e, _⟩ := hw; exact ⟨a, cap, e⟩
        have hw2 : Parts ((h1.push (.cells [.str [], .int .u8 0, .int .u8 0, .int .i64 0, .int .i64 0, .int .i64 0, .int .u16 0, .bool false, .slice none 0 (.exact 0)] false)).set h1.n (.cells ((headCard atoiV sf s).cells (.slice wa (finOf pieces atoiV sf s).2.length wc)) false)) (.slice wa (finOf pieces atoiV sf s).2.length wc) (finOf pieces atoiV sf s).2 := hw.mono (by simp) fun b hb => by rw [Hp.get_set_ne _ _ _ _ (by omega), Hp.get_push_ne _ _ _ (by omega)]
        have g2 : Grown h0 ((h1.push (.cells [.str [], .int .u8 0, .int .u8 0, .int .i64 0, .int .i64 0, .int .i64 0, .int .u16 0, .bool false, .slice none 0 (.exact 0)] false)).set h1.n (.cells ((headCard atoiV sf s).cells (.slice wa (finOf pieces atoiV sf s).2.length wc)) false)) := (I2.gr.push _).set (by have := I2.gr.1; omega) _
        have pz := hP (headCard atoiV sf s) _ _ _ hw2 g2
        have kz := hK (headCard atoiV sf s) _ _ _ hw2 g2
        have az := hA _ g2
        rw [hG.2.2.1] at pz kz
        rw [hG.2.2.2] at pz
        have x5 : ((0 : Int) != 0) = false := rfl
        have x6 : ((0 : Int) == 0) = true := rfl
        have x7 : decide (s = s) = true := by simp
        have z5 : ((headCard atoiV sf s).cells (.slice wa (finOf pieces atoiV sf s).2.length wc)).all AV.one = true := rfl
        have z6 : ∀ x1 x2 x3 x4 x5 x6 x7 x8 x9 : AV, Fs.over [x1, x2, x3, x4, x5, x6, x7, x8, x9] 0 ((headCard atoiV sf s).cells (.slice wa (finOf pieces atoiV sf s).2.length wc)) = (headCard atoiV sf s).cells (.slice wa (finOf pieces atoiV sf s).2.length wc) := fun _ _ _ _ _ _ _ _ _ => rfl
        (have fct := And.intro @q1 (And.intro @pz (And.intro @kz (And.intro @az (And.intro @x5 (And.intro @x6 (And.intro @x7 (And.intro fsAstr (And.intro @z5 (And.intro @z6 (And.intro @cells_len @cells_take)))))))))); (repeat' with_reducible first | refine Red.to ?_ | refine A_any (k := ?_) | refine A_skip (k := ?_) | refine A_cond (k := ?_) | refine A_dcons (k := ?_) | refine A_dstill (k := ?_) | refine A_dwanted (k := ?_) | refine A_dnil (k := ?_) | refine A_exne (k := ?_)); all_goals try clear fct)
        (simp only [DoneK, opsB, Nat.reduceEqDiff, Nat.reduceBEq, Nat.reduceBNe, Int.reduceBEq, Int.reduceBNe, Int.reduceLT, Int.reduceLE, Int.reduceEq, AV.one, AV.cells, CA.ev, abin, aint, aun, isShift, readVar, readCell, readCells, writeCells, fillA, reduceIte, Nat.reduceAdd, Nat.reduceSub, Nat.reduceLT, Nat.reduceLeDiff, resAll, resOne, AV.under, AV.unders, cut])
        exact ⟨I2.low, by omega⟩
      · have x5 : (e != 0) = true := by simpa using he
        have az := hA ((h1.push (.cells (zeroC.cells nilV) false)).set h1.n (.cells (zeroC.cells nilV) false)) ((I2.gr.push _).set (by have := I2.gr.1; omega) _)
        simp only [show ([AV.str [], AV.int .u8 0, AV.int .u8 0, AV.int .i64 0, AV.int .i64 0, AV.int .i64 0, AV.int .u16 0, AV.bool false, AV.slice none 0 (.exact 0)] : List AV) = zeroC.cells nilV from rfl]
        (have fct := And.intro @q1 (And.intro @az (And.intro @x5 (And.intro @ov_9 (And.intro @cells_len (And.intro @cells_take @cells_one))))); (repeat' with_reducible first | refine Red.to ?_ | refine A_any (k := ?_) | refine A_skip (k := ?_) | refine A_cond (k := ?_) | refine A_dcons (k := ?_) | refine A_dstill (k := ?_) | refine A_dwanted (k := ?_) | refine A_dnil (k := ?_) | refine A_exne (k := ?_)); all_goals try clear fct)
        (simp only [DoneK, opsB, Nat.reduceEqDiff, Nat.reduceBEq, Nat.reduceBNe, Int.reduceBEq, Int.reduceBNe, Int.reduceLT, Int.reduceLE, Int.reduceEq, AV.one, AV.cells, CA.ev, abin, aint, aun, isShift, readVar, readCell, readCells, writeCells, fillA, reduceIte, Nat.reduceAdd, Nat.reduceSub, Nat.reduceLT, Nat.reduceLeDiff, resAll, resOne, AV.under, AV.unders, cut])
        exact ⟨I2.low, by omega⟩
  case neg =>
    have x1 : (chkC c ps == 0) = false := by simpa using hc
    (have fct := And.intro @k0 (And.intro @k1 (And.intro @p1 (And.intro @p2 (And.intro @x1 (And.intro @cells_len @cells_take))))); (repeat' with_reducible first | refine Red.to ?_ | refine A_any (k := ?_) | refine A_skip (k := ?_) | refine A_cond (k := ?_) | refine A_dcons (k := ?_) | refine A_dstill (k := ?_) | refine A_dwanted (k := ?_) | refine A_dnil (k := ?_) | refine A_exne (k := ?_)); all_goals try clear fct)
    obtain ⟨z1, h1, q1, q2, q3⟩ := hR s H I.gr
    have I2 := I.kp q2
    have hn2 := I2.n
    rcases q3 with ⟨hG, w, rfl, hw⟩ | ⟨hG, e, he, rfl⟩
    · obtain ⟨wa, wc, rfl⟩ : ∃ a cap, w = .slice a (finOf pieces atoiV sf s).2.length cap := by obtain ⟨a, cap, e, _⟩ := hw; exact ⟨a, cap, e⟩
      have hw2 : Parts ((h1.push (.cells [.str [], .int .u8 0, .int .u8 0, .int .i64 0, .int .i64 0, .int .i64 0, .int .u16 0, .bool false, .slice none 0 (.exact 0)] false)).set h1.n (.cells ((headCard atoiV sf s).cells (.slice wa (finOf pieces atoiV sf s).2.length wc)) false)) (.slice wa (finOf pieces atoiV sf s).2.length wc) (finOf pieces atoiV sf s).2 := hw.mono (by simp) fun b hb => by rw [Hp.get_set_ne _ _ _ _ (by omega), Hp.get_push_ne _ _ _ (by omega)]
      have g2 : Grown h0 ((h1.push (.cells [.str [], .int .u8 0, .int .u8 0, .int .i64 0, .int .i64 0, .int .i64 0, .int .u16 0, .bool false, .slice none 0 (.exact 0)] false)).set h1.n (.cells ((headCard atoiV sf s).cells (.slice wa (finOf pieces atoiV sf s).2.length wc)) false)) := (I2.gr.push _).set (by have := I2.gr.1; omega) _
      have pz := hP (headCard atoiV sf s) _ _ _ hw2 g2
      have kz := hK (headCard atoiV sf s) _ _ _ hw2 g2
      have az := hA _ g2
      rw [hG.2.2.1] at pz kz
      rw [hG.2.2.2] at pz
      have x5 : ((0 : Int) != 0) = false := rfl
      have x6 : ((0 : Int) == 0) = true := rfl
      have x7 : decide (s = s) = true := by simp
      have z5 : ((headCard atoiV sf s).cells (.slice wa (finOf pieces atoiV sf s).2.length wc)).all AV.one = true := rfl
      have z6 : ∀ x1 x2 x3 x4 x5 x6 x7 x8 x9 : AV, Fs.over [x1, x2, x3, x4, x5, x6, x7, x8, x9] 0 ((headCard atoiV sf s).cells (.slice wa (finOf pieces atoiV sf s).2.length wc)) = (headCard atoiV sf s).cells (.slice wa (finOf pieces atoiV sf s).2.length wc) := fun _ _ _ _ _ _ _ _ _ => rfl
      (have fct := And.intro @q1 (And.intro @pz (And.intro @kz (And.intro @az (And.intro @x5 (And.intro @x6 (And.intro @x7 (And.intro fsAstr (And.intro @z5 (And.intro @z6 (And.intro @cells_len @cells_take)))))))))); (repeat' with_reducible first | refine Red.to ?_ | refine A_any (k := ?_) | refine A_skip (k := ?_) | refine A_cond (k := ?_) | refine A_dcons (k := ?_) | refine A_dstill (k := ?_) | refine A_dwanted (k := ?_) | refine A_dnil (k := ?_) | refine A_exne (k := ?_)); all_goals try clear fct)
      (simp only [DoneK, opsB, Nat.reduceEqDiff, Nat.reduceBEq, Nat.reduceBNe, Int.reduceBEq, Int.reduceBNe, Int.reduceLT, Int.reduceLE, Int.reduceEq, AV.one, AV.cells, CA.ev, abin, aint, aun, isShift, readVar, readCell, readCells, writeCells, fillA, reduceIte, Nat.reduceAdd, Nat.reduceSub, Nat.reduceLT, Nat.reduceLeDiff, resAll, resOne, AV.under, AV.unders, cut])
      exact ⟨I2.low, by omega⟩
    · have x5 : (e != 0) = true := by simpa using he
      have az := hA ((h1.push (.cells (zeroC.cells nilV) false)).set h1.n (.cells (zeroC.cells nilV) false)) ((I2.gr.push _).set (by have := I2.gr.1; omega) _)
      simp only [show ([AV.str [], AV.int .u8 0, AV.int .u8 0, AV.int .i64 0, AV.int .i64 0, AV.int .i64 0, AV.int .u16 0, AV.bool false, AV.slice none 0 (.exact 0)] : List AV) = zeroC.cells nilV from rfl]
      (have fct := And.intro @q1 (And.intro @az (And.intro @x5 (And.intro @ov_9 (And.intro @cells_len (And.intro @cells_take @cells_one))))); (repeat' with_reducible first | refine Red.to ?_ | refine A_any (k := ?_) | refine A_skip (k := ?_) | refine A_cond (k := ?_) | refine A_dcons (k := ?_) | refine A_dstill (k := ?_) | refine A_dwanted (k := ?_) | refine A_dnil (k := ?_) | refine A_exne (k := ?_)); all_goals try clear fct)
      (simp only [DoneK, opsB, Nat.reduceEqDiff, Nat.reduceBEq, Nat.reduceBNe, Int.reduceBEq, Int.reduceBNe, Int.reduceLT, Int.reduceLE, Int.reduceEq, AV.one, AV.cells, CA.ev, abin, aint, aun, isShift, readVar, readCell, readCells, writeCells, fillA, reduceIte, Nat.reduceAdd, Nat.reduceSub, Nat.reduceLT, Nat.reduceLeDiff, resAll, resOne, AV.under, AV.unders, cut])
      exact ⟨I2.low, by omega⟩
end Go.Proofs.Cards
