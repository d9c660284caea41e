/- The law CardParses, walked: both readers tell the same of every text; what is told lies apart. -/
import Derived.Test.YtjmhjipacmlojaaGreatDoorFz05
import Derived.Test.YtjmhjipacmlojaaGreatDoorFz05
import Derived.Test.YtjmhjipacmlojaaGreatDoorZcCdRefR
import Derived.Test.YtjmhjipacmlojaaGreatDoorZcCdRefPl
import Derived.Test.YtjmhjipacmlojaaGreatDoorZcCdApart
import Derived.Test.YtjmhjipacmlojaaGreatDoorZcEfParsesW
namespace Go.Proofs.Cards
set_option maxRecDepth 100000
set_option maxHeartbeats 32000000
open Go Go.Fs
set_option linter.unusedSimpArgs false
set_option linter.unusedVariables false
variable {orc : Orc}
def cf6 : CF := ⟨50, [(.tmp 2)], (.seq (.region [Zo 2 (.mv (.c (.bool false)))]) (.seq (.region [Zm 10 0, Zo 11 (.call (.f 25) [(.t 10)]), Zm 9 11, Ze 12 0 9, Ze 13 1 9, Zo 3 (.alloc [(.str []), (.int .u8 0), (.int .u8 0), (.int .i64 0), (.int .i64 0), (.int .i64 0), (.int .u16 0), (.bool false), (.slice none 0 (.exact 0))]), Zn (.store 9 (.t 3) (.t 12)), Zm 4 13]) (.seq (.region [Zm 15 0, Zo 16 (.call (.f 25) [(.t 15)]), Zm 14 16, Ze 17 0 14, Ze 18 1 14, Zo 5 (.alloc [(.str []), (.int .u8 0), (.int .u8 0), (.int .i64 0), (.int .i64 0), (.int .i64 0), (.int .u16 0), (.bool false), (.slice none 0 (.exact 0))]), Zn (.store 9 (.t 5) (.t 17)), Zm 6 18]) (.seq (.region [Zm 20 0, Zo 21 (.call (.f 26) [(.t 20)]), Zm 19 21, Ze 22 0 19, Ze 23 1 19, Zo 7 (.alloc [(.str []), (.int .u8 0), (.int .u8 0), (.int .i64 0), (.int .i64 0), (.int .i64 0), (.int .u16 0), (.bool false), (.slice none 0 (.exact 0))]), Zn (.store 9 (.t 7) (.t 22)), Zm 8 23]) (.seq (.region [Zm 24 4, Zm 25 8, Zb 26 .eql (.t 24) (.t 25), Zm 27 26, Zg 28 (.mv (.t 6)) 27 true, Zg 29 (.mv (.t 8)) 27 true, Zg 30 (.bin .eql .other (.t 28) (.t 29)) 27 true, Zo 31 (.pick (.t 27) (.t 30) (.c (.bool false))), Zm 32 31, Zg 33 (.load (some 9) (.t 3)) 32 true, Zg 34 (.load (some 9) (.t 7)) 32 true, Zg 35 (.call (.f 18) [(.t 33), (.t 34)]) 32 true, Zo 36 (.pick (.t 32) (.t 35) (.c (.bool false))), Zm 37 36, Zg 38 (.load (some 9) (.t 5)) 37 true, Zg 39 (.load (some 9) (.t 7)) 37 true, Zg 40 (.call (.f 18) [(.t 38), (.t 39)]) 37 true, Zo 41 (.pick (.t 37) (.t 40) (.c (.bool false))), Zm 42 41, Zg 43 (.faddr 8 (.t 3)) 42 true, Zg 44 (.load none (.t 43)) 42 true, Zg 45 (.faddr 8 (.t 5)) 42 true, Zg 46 (.load none (.t 45)) 42 true, Zg 47 (.litS 1 2 [(.slice none 0 (.exact 0))] [(0, (1, (.t 44))), (1, (1, (.t 46)))]) 42 true, Zg 48 (.call (.f 19) [(.t 47)]) 42 true, Zo 49 (.pick (.t 42) (.t 48) (.c (.bool false))), Zm 2 49]) .ret)))))⟩
theorem tbl6 : tbl Tryz.prog 6 = some cf6 := by kernel_rfl
theorem chk_rng {p : Prt} (h : p.chk = 0) : p.rng := by
 have key : ∀ (x : Int) (u : Bool) (hi : Int), hi ≤ 255 → Ef.withinB x u 1 hi = true → 0 ≤ x ∧ x ≤ 255 := by
  intro x u hi hh h
  unfold Ef.withinB at h
  cases u <;> simp at h <;> omega
 unfold Prt.chk Ef.chk at h
 cases h1 : Ef.bad1 p.a p.b p.c
 case true => simp [h1] at h
 cases h2 : Ef.bad2 p.a p.b p.c
 case true => simp [h1, h2] at h
 cases h3 : Ef.aboutB p.a p.b p.c
 case false => simp [h1, h2, h3] at h
 cases h4 : Ef.bad4 p.b p.d
 case true => simp [h1, h2, h3, h4] at h
 cases h5 : Ef.bad5 p.b p.c p.e p.f p.g
 case true => simp [h1, h2, h3, h4, h5] at h
 unfold Ef.bad5 at h5
 simp only [Bool.or_eq_false_iff, Bool.not_eq_false'] at h5
 exact ⟨key _ _ _ (by decide) h5.1.1, key _ _ _ (by decide) h5.1.2, key _ _ _ (by decide) h5.2⟩
theorem withT_room (s t : Int) : 0 ≤ withT s t ∧ withT s t ≤ 65535 := by
 have key : ∀ n : Int, 0 ≤ IntKind.wrap .u16 n ∧ IntKind.wrap .u16 n ≤ 65535 := fun n => by
  have e3 : IntKind.bits .u16 = 16 := rfl
  have e4 : IntKind.signed .u16 = false := rfl
  have hp : (2 : Int) ^ 16 = 65536 := by decide
  unfold IntKind.wrap
  simp only [e3, e4, Bool.false_and, hp, Bool.false_eq_true, if_false]
  omega
 unfold withT Go.bits
 exact key _
theorem stepH_rng {i : Nat} {c : Crd} {w : List UInt8} (h : c.rng) : (stepH i c w).rng := by
 obtain ⟨h1, h2, h3⟩ := h
 unfold stepH
 split
 · exact ⟨h1, h2, h3⟩
 split
 · exact ⟨Ef.suitR_range w, h2, h3⟩
 split
 · exact ⟨h1, ⟨by show (0 : Int) ≤ 1; decide, by show (1 : Int) ≤ 255; decide⟩, h3⟩
 split
 · exact ⟨h1, ⟨by show (0 : Int) ≤ 2; decide, by show (2 : Int) ≤ 255; decide⟩, h3⟩
 split
 · exact ⟨h1, ⟨by show (0 : Int) ≤ 3; decide, by show (3 : Int) ≤ 255; decide⟩, h3⟩
 split
 · exact ⟨h1, h2, h3⟩
 split
 · exact ⟨h1, h2, h3⟩
 split
 · exact ⟨h1, h2, h3⟩
 split
 · split
   · exact ⟨h1, h2, withT_room _ _⟩
   · exact ⟨h1, h2, h3⟩
 · exact ⟨h1, h2, h3⟩
theorem goH_rng : ∀ (L : List (List UInt8)) (i : Nat) {c : Crd}, c.rng → (goH i L c).rng
 | [], _, _, h => h
 | _ :: L, i, _, h => goH_rng L (i + 1) (stepH_rng h)
theorem zero_rng : zeroC.rng := ⟨⟨by decide, by decide⟩, ⟨by decide, by decide⟩, by decide, by decide⟩
theorem rcparse_spec (M : Nat) {h0 : AH} {atoiV : List UInt8 → Int} {sf : List UInt8 → Int × Bool} (A : Ef.RTold atoiV sf)
    (h1 : ∀ g, g ∈ [26, 72, 71, 113, 114, 119, 104, 105, 120] → orc g = none)
    (h2 : ∀ f, f ∈ [13, 40, 84, 119, 42, 86, 87, 88, 14, 43, 44, 45, 46, 89, 121, 91, 92, 93, 94, 95, 96] → orc f = none)
    (h3 : ∀ f, f ∈ [21, 59, 58, 102, 103, 104, 105, 120, 42, 86, 87, 88, 89, 121, 91, 92, 93, 94, 95, 96, 46] → orc f = none)
    (hT : Ef.Told orc h0) (hD : Digs orc h0) (s : List UInt8) {h : AH} (hg : Grown h0 h) :
    ∃ v1 h1, acall orc T 26 [.str s] h = some (v1, h1) ∧ Ef.Kp M h h1 ∧
     ((GoodR (fun s => Lib.split s [32]) atoiV sf s ∧ ∃ v, v1 = .tuple [.agg ((headR s).cells v), .int .i64 0] ∧ Parts h1 v (psR (fun s => Lib.split s [32]) atoiV sf s)) ∨
      (¬ GoodR (fun s => Lib.split s [32]) atoiV sf s ∧ v1 = .tuple [.agg (zeroC.cells nilV), .int .i64 (if s.length ≤ 512 then 160 else 3)])) := by
 by_cases hs : s.length ≤ 512
 case neg =>
  refine ⟨_, h, rparse_long (h1 _ (by simp)) s hs h, ?_, .inr ⟨fun hG => hs hG.1, by rw [if_neg hs]⟩⟩
  have := Ef.kp_settle (N := M) (h := h) (h' := h.withLow h.n) (v := .str []) (Nat.le_refl _) (fun _ _ => rfl) (Nat.le_refl _)
  rwa [settle_keep (Nat.le_refl _) rfl] at this
 case pos =>
 obtain ⟨v1, h1', e1, hr, hk⟩ := rcparse_walk M (orc := orc) (f := prsP (fun s => Lib.split s [32]) atoiV sf) h1 hT
  (fun x hh hgh => by rw [Ef.rparse_spec (orc := orc) h3 hT x hgh, Ef.prs_eq A, prsP_eq])
  (fun x hx => chk_rng (prsP_ok _ _ _ x hx).1)
  (fun c v ps hh hc hr hp hgh => rcprint_spec (orc := orc) h2 hT hD c v ps hc hr hp hgh)
  s hs hg (headR s) rfl (goH_rng _ _ zero_rng)
 refine ⟨v1, h1', e1, hk, ?_⟩
 by_cases hG : GoodR (fun s => Lib.split s [32]) atoiV sf s
 · rw [if_pos ⟨decide_eq_true hG.2.1, hG.2.2.1, hG.2.2.2⟩] at hr
   obtain ⟨v, q1, q2, _⟩ := hr
   exact .inl ⟨hG, v, q1, q2⟩
 · rw [if_neg (fun h => hG ⟨hs, of_decide_eq_true h.1, h.2.1, h.2.2⟩)] at hr
   exact .inr ⟨hG, by rw [if_pos hs]; exact hr⟩
def RowB (N M : Nat) (H : AH) (v : AV) (ps : List Prt) : Prop :=
 (ps = [] ∧ v = nilV) ∨ ∃ r, N ≤ r ∧ r < M ∧ v = .slice (some (r, 0)) ps.length (.opn 8) ∧ H.get r = some (.cells (ps.flatMap Prt.cells) false) ∧ ps ≠ []
theorem RowB.keep {N M : Nat} {H X : AH} {v : AV} {ps : List Prt} (r : RowB N M H v ps) (hX : ∀ b, b < M → X.get b = H.get b) : RowB N M X v ps := by
 rcases r with r | ⟨r, h1, h2, h3, h4⟩
 · exact .inl r
 · exact .inr ⟨r, h1, h2, h3, by rw [hX r h2]; exact h4.1, h4.2⟩
theorem apart_two (hap : orc 19 = some (apartOrc 8)) {H : AH} {bL N M : Nat} {u v : AV} {ps : List Prt} (hL : H.get bL = some (.cells [u, v] false)) (hM : M ≤ bL) (hN : N ≤ M) (hu : RowB N M H u ps) (hv : RowB M bL H v ps) :
    ∃ H', acall orc T 19 [.slice (some (bL, 0)) 2 (.exact 2)] H = some (.bool true, H') ∧ H'.n = H.n ∧ (∀ b, b < N → H'.get b = H.get b) ∧ (N ≤ H.low → N ≤ H'.low) := by
 have a0 : apartRow 8 H nilV = some none := rfl
 rcases hu with ⟨rfl, rfl⟩ | ⟨r, u1, u2, rfl, u4, u5⟩
 · obtain rfl : v = nilV := by
     rcases hv with ⟨_, e⟩ | ⟨r, v1, v2, e, v4, v5⟩
     · exact e
     · exact absurd rfl v5
   refine ⟨Hp.sets [(bL, .dead)] H, acall_orc hap ?_, by simp [Hp.sets], fun b hb => ?_, fun h => ?_⟩
   · unfold apartOrc
     simp only [hL]
     rw [if_pos ⟨rfl, by decide⟩]
     simp [List.mapM_cons, a0]
   · simp only [Hp.sets]; exact Hp.get_set_ne _ _ _ _ (by omega)
   · simp only [Hp.sets, Hp.low_set]; omega
 · rcases hv with ⟨rfl, rfl⟩ | ⟨r', v1, v2, rfl, v4, v5⟩
   · exact absurd rfl u5
   · have fl := flat_len ps
     have b1 : apartRow 8 H (.slice (some (r, 0)) ps.length (.opn 8)) = some (some r) := by
      unfold apartRow; simp only [u4]; rw [if_pos ⟨trivial, fl⟩]
     have b2 : apartRow 8 H (.slice (some (r', 0)) ps.length (.opn 8)) = some (some r') := by
      unfold apartRow; simp only [v4]; rw [if_pos ⟨trivial, fl⟩]
     refine ⟨Hp.sets [(bL, .dead), (r, .dead), (r', .dead)] H, acall_orc hap ?_, by simp [Hp.sets], fun b hb => ?_, fun h => ?_⟩
     · unfold apartOrc
       simp only [hL]
       rw [if_pos ⟨rfl, by decide⟩]
       simp only [List.mapM_cons, List.mapM_nil, b1, b2, Option.pure_def, Option.bind_eq_bind, Option.bind_some]
       rw [if_pos (by simp; omega)]
       rfl
     · simp only [Hp.sets]
       rw [Hp.get_set_ne _ _ _ _ (by omega), Hp.get_set_ne _ _ _ _ (by omega), Hp.get_set_ne _ _ _ _ (by omega)]
     · simp only [Hp.sets, Hp.low_set]; omega
structure Bx (h0 hB : AH) (N : Nat) (C : Crd) (ps : List Prt) (b : Nat) (v : AV) (H : AH) : Prop where
 gr : Grown h0 H
 low : hB.n ≤ H.low
 n : hB.n ≤ N ∧ N ≤ b ∧ b < H.n
 box : H.get b = some (.cells (C.cells v) false)
 parts : Parts H v ps
 own : RowB N b H v ps
theorem Bx.grow {h0 hB H X : AH} {N : Nat} {C : Crd} {ps : List Prt} {b : Nat} {v : AV} (I : Bx h0 hB N C ps b v H) (hn : H.n ≤ X.n) (hX : ∀ b, b < H.n → X.get b = H.get b) (hl : hB.n ≤ X.low) : Bx h0 hB N C ps b v X := by
 have h1 := I.n
 exact ⟨⟨Nat.le_trans I.gr.1 hn, fun c hc => by rw [hX c (Nat.lt_of_lt_of_le hc I.gr.1), I.gr.2 c hc]⟩, hl, by omega, by rw [hX _ (by omega)]; exact I.box, I.parts.mono hn hX, I.own.keep fun c hc => hX c (by omega)⟩
theorem Bx.new {h0 hB H h1 : AH} {C : Crd} {ps : List Prt} {v : AV} {blk : Blk} (hH : hB.n ≤ H.n) (hl : hB.n ≤ H.low) (g : Grown h0 H) (k : Ef.Kp hB.n H h1) (hp : Parts h1 v ps) (ho : Own H.n h1 v ps) :
    Bx h0 hB H.n C ps h1.n v ((h1.push blk).set h1.n (.cells (C.cells v) false)) := by
 have kn := k.n
 have g1 : Grown h0 h1 := Ef.Grown.kp g k
 refine ⟨(g1.push _).set (by have := g1.1; omega) _, by have := k.low hH hl; simp; omega, by simp; omega, Hp.get_set_self _ _ _, hp.mono (by simp) fun b hb => by rw [Hp.get_set_ne _ _ _ _ (by omega), Hp.get_push_ne _ _ _ (by omega)], ?_⟩
 rcases ho with ho | ⟨b, o1, o2, o3, o4, o5⟩
 · exact .inl ho
 · exact .inr ⟨b, o1, o2, o3, by rw [Hp.get_set_ne _ _ _ _ (by omega), Hp.get_push_ne _ _ _ (by omega)]; exact o4, o5⟩
theorem parses_walk {h0 : AH} (ho : orc 6 = none) (s : List UInt8) (C : Crd) (ps : List Prt) (e : Int) {h : AH} (hg : Grown h0 h)
    (hR : ∀ (H : AH), Grown h0 H → ∃ v1 h1, acall orc T 25 [.str s] H = some (v1, h1) ∧ ∃ v, v1 = .tuple [.agg (C.cells v), .int .i64 e] ∧ Ef.Kp h.n H h1 ∧ Parts h1 v ps ∧ Own H.n h1 v ps)
    (hR6 : ∀ (H : AH), Grown h0 H → ∃ v1 h1, acall orc T 26 [.str s] H = some (v1, h1) ∧ ∃ v, v1 = .tuple [.agg (C.cells v), .int .i64 e] ∧ Ef.Kp h.n H h1 ∧ Parts h1 v ps)
    (hS : ∀ (c d : Crd) (v u : AV) (ps qs : List Prt) (h : AH), Parts h v ps → Parts h u qs → acall orc T 18 [.agg (c.cells v), .agg (d.cells u)] h = some (.bool (decide (ps = qs) && decide (c = d)), h))
    (hap : orc 19 = some (apartOrc 8)) :
    acall orc T 6 [.str s] h = some (.bool true, h) := by
 refine acall_sym ho tbl6 ?_
 refine GD ?_
 simp only [show ([AV.str [], AV.int .u8 0, AV.int .u8 0, AV.int .i64 0, AV.int .i64 0, AV.int .i64 0, AV.int .u16 0, AV.bool false, AV.slice none 0 (.exact 0)] : List AV) = zeroC.cells nilV from rfl]
 (have fct := @op_mv; refine GO ?_; clear fct)
 refine R_ex (by simp (maxDischargeDepth := 12) only [opsB, Nat.reduceEqDiff, Nat.reduceBEq, Nat.reduceBNe, Int.reduceBEq, Int.reduceBNe, Int.reduceLT, Int.reduceLE, Int.reduceEq, AV.one, AV.cells, CA.ev, abin, aint, aun, isShift, readVar, readCell, readCells, writeCells, fillA, reduceIte, Nat.reduceAdd, Nat.reduceSub, Nat.reduceLT, Nat.reduceLeDiff, resAll, resOne, AV.under, AV.unders, cut]; (first | done | with_reducible rfl)) (hR (h.withLow h.n) (hg.low _)) fun v1 h1 hh => ?_
 obtain ⟨va, rfl, k1, p1, o1⟩ := hh
 obtain ⟨aa, ca, rfl⟩ : ∃ a cap, va = .slice a ps.length cap := by obtain ⟨a, cap, e, _⟩ := p1; exact ⟨a, cap, e⟩
 refine A_tm ?_
 have z1 : (C.cells (.slice aa ps.length ca)).all AV.one = true := rfl
 have I1 := Bx.new (hB := h) (C := C) (blk := .cells (zeroC.cells nilV) false) (by simp) (by simp) (hg.low _) k1 p1 o1
 (have fct := Fj @z1 (Fj @cells_len (Fj @cells_take @ov_9)); refine GO ?_; clear fct)
 refine R_heap (fun X => Bx h0 h h.n C ps h1.n (.slice aa ps.length ca) X) I1 (fun H1 I1 => ?_)
 generalize h1.n = b1 at *
 clear k1 p1 o1 hg
 (have fct := @op_mv; refine GO ?_; clear fct)
 refine R_ex (by simp (maxDischargeDepth := 12) only [opsB, Nat.reduceEqDiff, Nat.reduceBEq, Nat.reduceBNe, Int.reduceBEq, Int.reduceBNe, Int.reduceLT, Int.reduceLE, Int.reduceEq, AV.one, AV.cells, CA.ev, abin, aint, aun, isShift, readVar, readCell, readCells, writeCells, fillA, reduceIte, Nat.reduceAdd, Nat.reduceSub, Nat.reduceLT, Nat.reduceLeDiff, resAll, resOne, AV.under, AV.unders, cut]; (first | done | with_reducible rfl)) (hR H1 I1.gr) fun v1 h1 hh => ?_
 obtain ⟨vb, rfl, k1, p1, o1⟩ := hh
 obtain ⟨ab, cb, rfl⟩ : ∃ a cap, vb = .slice a ps.length cap := by obtain ⟨a, cap, e, _⟩ := p1; exact ⟨a, cap, e⟩
 refine A_tm ?_
 have z2 : (C.cells (.slice ab ps.length cb)).all AV.one = true := rfl
 have hn1 := I1.n
 have I2 := Bx.new (hB := h) (C := C) (blk := .cells (zeroC.cells nilV) false) (by omega) I1.low I1.gr k1 p1 o1
 have kn := k1.n
 have I1' : Bx h0 h h.n C ps b1 (.slice aa ps.length ca) ((h1.push (.cells (zeroC.cells nilV) false)).set h1.n (.cells (C.cells (.slice ab ps.length cb)) false)) :=
  I1.grow (by simp; omega) (fun b hb => by rw [Hp.get_set_ne _ _ _ _ (by omega), Hp.get_push_ne _ _ _ (by omega), k1.get b hb]) I2.low
 (have fct := Fj @z2 (Fj @cells_len (Fj @cells_take @ov_9)); refine GO ?_; clear fct)
 refine R_heap (fun X => Bx h0 h h.n C ps b1 (.slice aa ps.length ca) X ∧ Bx h0 h H1.n C ps h1.n (.slice ab ps.length cb) X) ⟨I1', I2⟩ (fun H2 II => ?_)
 obtain ⟨J1, J2⟩ := II
 clear I1 I2 I1' k1 p1 o1
 have hn2 := J2.n
 generalize H1.n = N2 at *
 generalize h1.n = b2 at *
 (have fct := @op_mv; refine GO ?_; clear fct)
 refine R_ex (by simp (maxDischargeDepth := 12) only [opsB, Nat.reduceEqDiff, Nat.reduceBEq, Nat.reduceBNe, Int.reduceBEq, Int.reduceBNe, Int.reduceLT, Int.reduceLE, Int.reduceEq, AV.one, AV.cells, CA.ev, abin, aint, aun, isShift, readVar, readCell, readCells, writeCells, fillA, reduceIte, Nat.reduceAdd, Nat.reduceSub, Nat.reduceLT, Nat.reduceLeDiff, resAll, resOne, AV.under, AV.unders, cut]; (first | done | with_reducible rfl)) (hR6 H2 J1.gr) fun v1 h1 hh => ?_
 obtain ⟨vc, rfl, k1, p1⟩ := hh
 obtain ⟨ac, cc, rfl⟩ : ∃ a cap, vc = .slice a ps.length cap := by obtain ⟨a, cap, e, _⟩ := p1; exact ⟨a, cap, e⟩
 refine A_tm ?_
 have z3 : (C.cells (.slice ac ps.length cc)).all AV.one = true := rfl
 have kn := k1.n
 have lw := k1.low (by omega) J1.low
 have gX : ∀ b, b < H2.n → ((h1.push (.cells (zeroC.cells nilV) false)).set h1.n (.cells (C.cells (.slice ac ps.length cc)) false)).get b = H2.get b := fun b hb => by rw [Hp.get_set_ne _ _ _ _ (by omega), Hp.get_push_ne _ _ _ (by omega), k1.get b hb]
 have L1 := J1.grow (X := (h1.push (.cells (zeroC.cells nilV) false)).set h1.n (.cells (C.cells (.slice ac ps.length cc)) false)) (by simp; omega) gX (by simp; omega)
 have L2 := J2.grow (X := (h1.push (.cells (zeroC.cells nilV) false)).set h1.n (.cells (C.cells (.slice ac ps.length cc)) false)) (by simp; omega) gX (by simp; omega)
 have pc : Parts ((h1.push (.cells (zeroC.cells nilV) false)).set h1.n (.cells (C.cells (.slice ac ps.length cc)) false)) (.slice ac ps.length cc) ps := p1.mono (by simp) fun b hb => by rw [Hp.get_set_ne _ _ _ _ (by omega), Hp.get_push_ne _ _ _ (by omega)]
 (have fct := Fj @z3 (Fj @cells_len (Fj @cells_take @ov_9)); refine GO ?_; clear fct)
 refine R_heap (fun X => Bx h0 h h.n C ps b1 (.slice aa ps.length ca) X ∧ Bx h0 h N2 C ps b2 (.slice ab ps.length cb) X ∧ X.get h1.n = some (.cells (C.cells (.slice ac ps.length cc)) false) ∧ Parts X (.slice ac ps.length cc) ps) ⟨L1, L2, Hp.get_set_self _ _ _, pc⟩ (fun H II => ?_)
 obtain ⟨K1, K2, x3, p3⟩ := II
 clear J1 J2 L1 L2 gX pc k1 p1
 generalize h1.n = b3 at *
 have x1 := K1.box
 have x2 := K2.box
 have s1 := hS C C _ _ _ _ _ K1.parts p3
 have s2 := hS C C _ _ _ _ _ K2.parts p3
 have x8 : (decide (ps = ps) && decide (C = C)) = true := by simp
 rw [x8] at s1 s2
 have hm1 := K1.n
 have hm2 := K2.n
 obtain ⟨H', ea, en, eg, el'⟩ := apart_two (N := h.n) (M := b1) hap (H := H.push (.cells [.slice aa ps.length ca, .slice ab ps.length cb] false)) (bL := H.n) (u := .slice aa ps.length ca) (v := .slice ab ps.length cb) (ps := ps) (Hp.get_push_self _ _) (by omega) (by omega)
  (K1.own.keep fun b hb => Hp.get_push_ne _ _ _ (by omega))
  (by
    have := K2.own.keep (X := H.push (.cells [.slice aa ps.length ca, .slice ab ps.length cb] false)) fun b hb => Hp.get_push_ne _ _ _ (by omega)
    rcases this with r | ⟨r, r1, r2, r3⟩
    · exact .inl r
    · exact .inr ⟨r, by omega, by omega, r3⟩)
 have q1 : (e == e) = true := by simp
 have x9 : (C.cells (.slice aa ps.length ca))[8]? = some (.slice aa ps.length ca) := rfl
 have x10 : (C.cells (.slice ab ps.length cb))[8]? = some (.slice ab ps.length cb) := rfl
 have lo := K1.low
 (have fct := Fj @q1 (Fj @x1 (Fj @x2 (Fj @x3 (Fj @s1 (Fj @s2 (Fj @x9 (Fj @x10 (Fj @ea (Fj @cells_len (Fj @cells_take (Fj @op_litS (Fj fsReps @Fs.over.eq_1)))))))))))); refine GO ?_; clear fct)
 (have fct := trivial; refine A_end ?_; clear fct; try exact trivial)
 exact el' (by simpa using lo)
theorem parses_spec {h0 : AH} {atoiV : List UInt8 → Int} {sf : List UInt8 → Int × Bool} (A : Ef.RTold atoiV sf) (hpc : ∀ W : List (List UInt8), W ≠ [] → W.all Ef.noB = true → (fun s => Lib.split s [32]) (Lib.join W [32]) = W)
    (hl : orc 6 = none) (hno : orc 25 = none) (ho : ∀ g, g ∈ [25, 69, 110] → orc g = none)
    (hrd : ∀ f, f ∈ [70, 31, 69, 110, 111, 141, 112, 116, 79, 57] → orc f = none)
    (hpr : ∀ f, f ∈ [10, 9, 29, 74, 75, 30, 31, 76, 33, 78, 116, 79, 23, 51, 24, 54, 61, 62, 63, 64, 65, 66, 67, 68, 106, 107, 108] → orc f = none)
    (hep : ∀ f, f ∈ [20, 52, 53, 57, 23, 51, 24, 54, 61, 62, 63, 64, 65, 66, 67, 68, 106, 107, 108] → orc f = none)
    (h1 : ∀ g, g ∈ [26, 72, 71, 113, 114, 119, 104, 105, 120] → orc g = none)
    (h2 : ∀ f, f ∈ [13, 40, 84, 119, 42, 86, 87, 88, 14, 43, 44, 45, 46, 89, 121, 91, 92, 93, 94, 95, 96] → orc f = none)
    (h3 : ∀ f, f ∈ [21, 59, 58, 102, 103, 104, 105, 120, 42, 86, 87, 88, 89, 121, 91, 92, 93, 94, 95, 96, 46] → orc f = none)
    (hs1 : orc 18 = none) (hs2 : orc 47 = none) (hap : orc 19 = some (apartOrc 8))
    (ht : Ef.Trims orc) (hF : Ef.Flds orc h0) (hJ : Ef.Joins orc) (hT : Ef.Told orc h0) (hP : Ef.PTold orc h0 (fun s => Lib.split s [32]) atoiV sf) (hC : CTold orc h0 atoiV sf) (hD : Digs orc h0) (s : List UInt8) {h : AH} (hg : Grown h0 h) :
    acall orc T 6 [.str s] h = some (.bool true, h) := by
 obtain ⟨gi, ge⟩ := good_iff (pieces := fun s => Lib.split s [32]) A hpc s
 have own := fun (H : AH) (g : Grown h0 H) => cparse_own h.n hno ho hrd hpr hep ht hF hJ hT hP hC s g
 have ref := fun (H : AH) (g : Grown h0 H) => rcparse_spec h.n A h1 h2 h3 hT hD s g
 have same := fun (c d : Crd) (v u : AV) (ps qs : List Prt) (h : AH) (hp : Parts h v ps) (hq : Parts h u qs) => samecard_spec (orc := orc) hs1 hs2 (c := c) (d := d) hp hq
 by_cases hG : GoodC (fun s => Lib.split s [32]) atoiV sf s
 · obtain ⟨e1, e2⟩ := ge hG
   refine parses_walk hl s (headCard atoiV sf s) (finOf (fun s => Lib.split s [32]) atoiV sf s).2 0 hg (fun H g => ?_) (fun H g => ?_) same hap
   · obtain ⟨v1, x1, a, k, hr⟩ := own H g
     rcases hr with ⟨_, v, rfl, p1, p2⟩ | ⟨hB, _⟩
     · exact ⟨_, x1, a, v, rfl, k, p1, p2⟩
     · exact absurd hG hB
   · obtain ⟨v1, x1, a, k, hr⟩ := ref H g
     rcases hr with ⟨_, v, rfl, p1⟩ | ⟨hB, _⟩
     · rw [e1] at a
       rw [e2] at p1
       exact ⟨_, x1, a, v, rfl, k, p1⟩
     · exact absurd (gi.2 hG) hB
 · have hN : ∀ H : AH, Parts H nilV [] := fun H => ⟨_, _, rfl, by simp, .inl rfl⟩
   refine parses_walk hl s zeroC [] (if s.length ≤ 512 then 160 else 3) hg (fun H g => ?_) (fun H g => ?_) same hap
   · obtain ⟨v1, x1, a, k, hr⟩ := own H g
     rcases hr with ⟨hB, _⟩ | ⟨_, rfl⟩
     · exact absurd hB hG
     · exact ⟨_, x1, a, nilV, rfl, k, hN _, .inl ⟨rfl, rfl⟩⟩
   · obtain ⟨v1, x1, a, k, hr⟩ := ref H g
     rcases hr with ⟨hB, _⟩ | ⟨_, rfl⟩
     · exact absurd (gi.1 hB) hG
     · exact ⟨_, x1, a, nilV, rfl, k, hN _⟩
end Go.Proofs.Cards
