/- gambitkit.Books: both books are filled alike. -/
import Derived.Test.YtlppecefalblmaaGreatDoorFz05
import Derived.Test.YtlppecefalblmaaGreatDoorZtBkBooks
namespace Go.Proofs.Cards
set_option maxRecDepth 100000
set_option maxHeartbeats 32000000
open Go Go.Fs
set_option linter.unusedSimpArgs false
set_option linter.unusedVariables false
variable {orc : Orc}
structure Fill (h : AH) (fv mv : AV) (fs : List Cv) (fds : List Cd) (mks : List Mrk) : Prop where
 cards : RowR Cv.cells 9 h fv fs
 marks : RowR Mrk.cells 4 h mv mks
 same : fs.length = fds.length
 are : ∀ (i : Nat) (x : Cv) (d : Cd), fs[i]? = some x → fds[i]? = some d → x.c = d.1 ∧ Parts h x.sl d.2 ∧ d.2.length * 40 ≤ 140737488355328 ∧ d.1.rng ∧ ∀ p ∈ d.2, p.rng
 big : fs.length ≤ 1000 ∧ mks.length ≤ 1000
 mrng : ∀ m ∈ mks, 0 ≤ m.m ∧ m.m ≤ 255
def filled (fds : List Cd) : List Cd := fds.foldl addC []
def marked (mks : List Mrk) : List Mrk := mks.foldl addM marks0
def shutB (op : Bool) (ds : List Cd) : Bool := !op && decide (sealE ds = 0)
theorem good_fill (fds : List Cd) : ∀ {ds : List Cd}, Good ds → Good (fds.foldl addC ds) := by
 induction fds with
 | nil => exact fun g => g
 | cons d r ih => exact fun g => ih (g.add d)
theorem fold_take {α β : Type} (f : β → α → β) (z : β) {l : List α} {i : Nat} {x : α} (h : l[i]? = some x) : (l.take (i + 1)).foldl f z = f ((l.take i).foldl f z) x := by
 rw [List.take_add_one, h, List.foldl_append]
 rfl
structure BoI (h : AH) (fv mv : AV) (op : Bool) (fs : List Cv) (fds : List Cd) (n : Nat) (tm : List AV) (H : AH) : Prop where
 len : tm.length = 80
 t1 : tm.getD 1 AV.undef = .ptr (some (h.n, 0))
 t5 : tm.getD 5 AV.undef = .ptr (some (h.n + 1, 0))
 t6 : tm.getD 6 AV.undef = .ptr (some (h.n + 2, 0))
 bx : H.get h.n = some (.cells [fv, mv, .bool op] false)
 old : ∀ b, b < h.n → H.get b = h.get b
 low : h.n ≤ H.low
 st : ∃ (i : Nat) (xs zs ys : List Cv) (lv : AV), n = fs.length - i ∧ i ≤ fs.length ∧ tm.getD 7 AV.undef = .int .i64 (i : Int) ∧ Bks (h.n + 1) (h.n + 2) ((fds.take i).foldl addC []) marks0 false H xs zs ys lv
structure MoI (h : AH) (fv mv : AV) (op : Bool) (ds : List Cd) (mks : List Mrk) (n : Nat) (tm : List AV) (H : AH) : Prop where
 len : tm.length = 80
 t1 : tm.getD 1 AV.undef = .ptr (some (h.n, 0))
 t5 : tm.getD 5 AV.undef = .ptr (some (h.n + 1, 0))
 t6 : tm.getD 6 AV.undef = .ptr (some (h.n + 2, 0))
 bx : H.get h.n = some (.cells [fv, mv, .bool op] false)
 old : ∀ b, b < h.n → H.get b = h.get b
 low : h.n ≤ H.low
 st : ∃ (i : Nat) (xs zs ys : List Cv) (lv : AV), n = mks.length - i ∧ i ≤ mks.length ∧ tm.getD 8 AV.undef = .int .i64 (i : Int) ∧ Bks (h.n + 1) (h.n + 2) ds ((mks.take i).foldl addM marks0) false H xs zs ys lv
theorem books_spec (B : BTold orc) {fv mv : AV} {op : Bool} {fs : List Cv} {fds : List Cd} {mks : List Mrk} {h : AH} (F : Fill h fv mv fs fds mks) :
    ∃ v1 h1, acall orc T 19 [.agg [fv, mv, .bool op]] h = some (v1, h1) ∧ ∃ pa pb xs zs ys lv, v1 = .tuple [.ptr (some (pa, 0)), .ptr (some (pb, 0)), .bool true] ∧ h.n ≤ pa ∧ Bks pa pb (filled fds) (marked mks) (shutB op (filled fds)) h1 xs zs ys lv ∧ h.n ≤ h1.n ∧ (∀ b, b < h.n → h1.get b = h.get b) ∧ (∀ N, N ≤ h.n → N ≤ h.low → N ≤ h1.low) := by
 refine acall_facts (R := fun v1 h1 => ∃ pa pb xs zs ys lv, v1 = .tuple [.ptr (some (pa, 0)), .ptr (some (pb, 0)), .bool true] ∧ h.n ≤ pa ∧ Bks pa pb (filled fds) (marked mks) (shutB op (filled fds)) h1 xs zs ys lv ∧ h.n ≤ h1.n ∧ (∀ b, b < h.n → h1.get b = h.get b) ∧ (∀ N, N ≤ h.n → N ≤ h.low → N ≤ h1.low)) (B.none _ (by simp)) tbl19 ?_
 simp only [Ef.settle_fst1]
 obtain ⟨fa, fc, hfv, _⟩ := id F.cards
 obtain ⟨ma, mc, hmv, _⟩ := id F.marks
 have bx : ∀ (hh : AH), boxV (.agg [fv, mv, .bool op]) hh = some (.ptr (some (hh.n, 0)), hh.push (.cells [fv, mv, .bool op] false)) := fun hh => boxV_agg _ (by rw [hfv, hmv]; rfl)
 have nb := fun hh => bnew_spec (orc := orc) (B.none _ (by simp)) hh
 have nr := fun hh => rnew_spec (orc := orc) (B.none _ (by simp)) hh
 refine GD ?_
 (have fct := Fj @bx (Fj @nb @nr); refine GOD ?_; clear fct)
 have hnb := B.none
 refine CodeK_loop (BoI h fv mv op fs fds) fs.length ?_ ?_
 · have q1 : ∀ (X : AH) (a b c : Blk) (l1 l2 : Nat) (k : Nat), k < X.n → (((((X.push a).push b).withLow l1).push c).withLow l2).get k = X.get k := fun X a b c l1 l2 k hk => by
     rw [Hp.get_withLow, Hp.get_push_ne _ _ _ (by simp; omega), Hp.get_withLow, Hp.get_push_ne _ _ _ (by simp; omega), Hp.get_push_ne _ _ _ (by omega)]
   refine ⟨rfl, rfl, rfl, rfl, ?_, fun b hb => ?_, by simp only [Hp.low_withLow, Hp.low_push, Hp.n_push, Hp.n_withLow]; omega, 0, [], List.replicate 64 zeroV, [], nilV, rfl, by omega, rfl, ?_⟩
   · rw [Hp.get_withLow, Hp.get_push_ne _ _ _ (by simp only [Hp.n_push, Hp.n_withLow]; omega), Hp.get_withLow, Hp.get_push_ne _ _ _ (by simp only [Hp.n_push, Hp.n_withLow]; omega)]
     exact Hp.get_push_self _ _
   · rw [q1 _ _ _ _ _ _ _ (by simpa using hb)]; rfl
   · refine ⟨?_, rfl, ⟨rfl, fun i x d h => by simp at h⟩, ?_, .inl ⟨rfl, rfl⟩, ⟨rfl, fun i x d h => by simp at h⟩, by omega, by simp, rfl, mark0, rfl, rfl⟩
     · rw [Hp.get_withLow, Hp.get_push_ne _ _ _ (by simp), Hp.get_withLow]
       exact Hp.get_push_self _ _
     · rw [Hp.get_withLow]
       exact Hp.get_push_self _ _
 clear bx nb nr
 intro n tm H I
 obtain ⟨i, xs, zs, ys, lv, hni, hi, e7, K⟩ := I.st
 have el := I.len
 have t1 := I.t1
 have t5 := I.t5
 have t6 := I.t6
 have b0 := I.bx
 have old := I.old
 have lo := I.low
 clear I
 have hbn := K.bn
 have lvF : ∀ hh, lenV fv hh = some (.int .i64 (fs.length : Int), hh) := fun hh => by rw [hfv]; rfl
 by_cases hlt : i < fs.length
 case pos =>
  have l1 : decide ((i : Int) < (fs.length : Int)) = true := by rw [decide_eq_true_eq]; omega
  obtain ⟨x, hx⟩ : ∃ x, fs[i]? = some x := ⟨_, List.getElem?_eq_getElem hlt⟩
  obtain ⟨d, hd⟩ : ∃ d, fds[i]? = some d := ⟨_, List.getElem?_eq_getElem (by rw [← F.same]; exact hlt)⟩
  obtain ⟨hxc, hxp, hps, hcr, hpr⟩ := F.are i x d hx hd
  obtain ⟨rb, ro, rcells, rro, rc, hfv2, hrb, hrg, hcut⟩ := F.cards.at hx
  have hg0 := (old rb hrb).trans hrg
  have a1 := fun (hh : AH) => iaddrV_nat (h := hh) (esz := 9) (b := rb) (o := ro) (c := rc) (k := .i64) hlt
  rw [← hfv2] at a1
  have hc1 : (ro + (i * 9 + 9) ≤ rcells.length) = True := by have := (cut_parts hcut).1; simp; omega
  have hc2 := (cut_parts hcut).2
  have w1 : IntKind.wrap .i64 ((i : Int) + 1) = ((i + 1 : Nat) : Int) := by have := F.big.1; rw [wrap_i64 (by omega) (by omega)]; omega
  have G : Good ((fds.take i).foldl addC []) := good_fill _ Good.nil
  have cc : ∀ (N : Nat) (X : AH), N ≤ X.n → (∀ b, b < h.n → X.get b = h.get b) → h.n ≤ X.n → ∃ v1 h1, acall orc T 62 [.agg x.cells] X = some (v1, h1) ∧ ∃ v', v1 = .agg (d.1.cells v') ∧ Ef.Kp N X h1 ∧ Parts h1 v' d.2 ∧ Own X.n h1 v' d.2 := fun N X hN ho hn => by
   have := cpc_spec (orc := orc) N (hnb _ (by simp)) (hnb _ (by simp)) x.c x.sl d.2 hN (hxp.mono hn ho) hps
   rw [hxc] at this
   have e : x.cells = d.1.cells x.sl := by unfold Cv.cells; rw [hxc]
   rw [e]
   exact this
  (have fct := Fj @el (Fj @t1 (Fj @t5 (Fj @t6 (Fj @e7 (Fj @l1 (Fj @b0 (Fj @lvF (Fj @hg0 (Fj @hc1 (Fj @hc2 @a1)))))))))); refine GOD ?_; clear fct)
  refine D_ex rfl rfl (by simp (maxDischargeDepth := 12) only [opsB, Nat.reduceEqDiff, Nat.reduceBEq, Nat.reduceBNe, Int.reduceBEq, Int.reduceBNe, Int.reduceLT, Int.reduceLE, Int.reduceEq, AV.one, AV.cells, CA.ev, abin, aint, aun, isShift, readVar, readCell, readCells, writeCells, fillA, reduceIte, Nat.reduceAdd, Nat.reduceSub, Nat.reduceLT, Nat.reduceLeDiff, resAll, resOne, AV.under, AV.unders, cut, el, fsTm, Nat.reduceBEq, Nat.reduceLT]; (first | done | with_reducible rfl)) (cc h.n H (by omega) old (by omega)) fun v1 H1 hh => ?_
  obtain ⟨w, rfl, kp1, _, ow1⟩ := hh
  refine D_tm (tm' := List.set _ 24 _) rfl ?_
  have kn1 := kp1.n
  have K1 := K.off kn1 kp1.get
  refine D_ex rfl rfl (by simp (maxDischargeDepth := 12) only [opsB, Nat.reduceEqDiff, Nat.reduceBEq, Nat.reduceBNe, Int.reduceBEq, Int.reduceBNe, Int.reduceLT, Int.reduceLE, Int.reduceEq, AV.one, AV.cells, CA.ev, abin, aint, aun, isShift, readVar, readCell, readCells, writeCells, fillA, reduceIte, Nat.reduceAdd, Nat.reduceSub, Nat.reduceLT, Nat.reduceLeDiff, resAll, resOne, AV.under, AV.unders, cut, el, fsTm, Nat.reduceBEq, Nat.reduceLT]; (first | done | with_reducible rfl)) (bks_card B K1 G d w (ow1.from (by omega)) hps) fun v2 H2 hh => ?_
  obtain ⟨rfl, kn2, fr2, lw2, xs2, zs2, pa2, l642, ar2⟩ := hh
  refine D_tm (tm' := List.set _ 25 _) rfl ?_
  have b1 := (kp1.get h.n (by omega)).trans b0
  have b2 := (fr2 h.n (by omega) (by omega)).trans b1
  have old1 : ∀ b, b < h.n → H1.get b = h.get b := fun b hb => by rw [kp1.get b (by omega)]; exact old b hb
  have old2 : ∀ b, b < h.n → H2.get b = h.get b := fun b hb => by rw [fr2 b (by omega) (by omega)]; exact old1 b hb
  have hg1 := (old1 rb hrb).trans hrg
  have hg2 := (old2 rb hrb).trans hrg
  (have fct := Fj @el (Fj @t1 (Fj @t5 (Fj @t6 (Fj @e7 (Fj @l1 (Fj @b2 (Fj @lvF (Fj @hg2 (Fj @hc1 (Fj @hc2 @a1)))))))))); refine GOD ?_; clear fct)
  refine D_ex rfl rfl (by simp (maxDischargeDepth := 12) only [opsB, Nat.reduceEqDiff, Nat.reduceBEq, Nat.reduceBNe, Int.reduceBEq, Int.reduceBNe, Int.reduceLT, Int.reduceLE, Int.reduceEq, AV.one, AV.cells, CA.ev, abin, aint, aun, isShift, readVar, readCell, readCells, writeCells, fillA, reduceIte, Nat.reduceAdd, Nat.reduceSub, Nat.reduceLT, Nat.reduceLeDiff, resAll, resOne, AV.under, AV.unders, cut, el, fsTm, Nat.reduceBEq, Nat.reduceLT]; (first | done | with_reducible rfl)) (cc h.n H2 (by omega) old2 (by omega)) fun v3 H3 hh => ?_
  obtain ⟨w3, rfl, kp3, _, ow3⟩ := hh
  refine D_tm (tm' := List.set _ 32 _) rfl ?_
  have kn3 := kp3.n
  have pb3 : H3.get (h.n + 2) = some (.cells (rbC false lv marks0) false) := by rw [kp3.get _ (by omega), fr2 _ (by omega) (by omega)]; exact K1.b
  have row3 : RowW Cv.cells 9 (h.n + 2 + 1) H3 lv ys := (K1.row.keep kn2 fun b h1 h2 => fr2 b h2 (by omega)).keep kn3 fun b _ h2 => kp3.get b h2
  have ay3 : Ares (h.n + 2 + 1) H3 ys ((fds.take i).foldl addC []) := (K1.ay.off kn2 fun b h1 h2 => fr2 b h2 (by omega)).off kn3 fun b _ h2 => kp3.get b h2
  refine D_ex rfl rfl (by simp (maxDischargeDepth := 12) only [opsB, Nat.reduceEqDiff, Nat.reduceBEq, Nat.reduceBNe, Int.reduceBEq, Int.reduceBNe, Int.reduceLT, Int.reduceLE, Int.reduceEq, AV.one, AV.cells, CA.ev, abin, aint, aun, isShift, readVar, readCell, readCells, writeCells, fillA, reduceIte, Nat.reduceAdd, Nat.reduceSub, Nat.reduceLT, Nat.reduceLeDiff, resAll, resOne, AV.under, AV.unders, cut, el, fsTm, Nat.reduceBEq, Nat.reduceLT]; (first | done | with_reducible rfl)) (bks_rcard (pa := h.n + 1) (ds2 := []) B pb3 row3 ay3 (by omega) G d w3 (ow3.from (by omega)) hps hcr hpr) fun v4 H4 hh => ?_
  obtain ⟨rfl, kn4, fr4, lw4, lv4, ys4, pb4, row4, ay4⟩ := hh
  refine D_tm (tm' := List.set _ 33 _) rfl ?_
  have n1 : (cardE (nms ((fds.take i).foldl addC [])) d.1 d.2 != cardE (nms ((fds.take i).foldl addC [])) d.1 d.2) = false := bne_self_eq_false _
  (have fct := Fj @el (Fj @t1 (Fj @t5 (Fj @t6 (Fj @e7 (Fj @n1 (Fj @w1 (Fj @b0 (Fj @b1 (Fj @b2 (Fj @hg0 (Fj @hg1 (Fj @hg2 (Fj @hc1 @hc2))))))))))))); refine GOD ?_; clear fct)
  refine ⟨fs.length - (i + 1), by omega, by simp only [List.length_set, el], by simp only [fsTm, Nat.reduceBEq, Nat.reduceLT, el, t1], by simp only [fsTm, Nat.reduceBEq, Nat.reduceLT, el, t5], by simp only [fsTm, Nat.reduceBEq, Nat.reduceLT, el, t6], by rw [fr4 _ (by omega) (by omega), kp3.get _ (by omega)]; exact b2, fun b hb => by rw [fr4 _ (by omega) (by omega), kp3.get _ (by omega)]; exact old2 b hb,
   lw4 h.n (by omega) (kp3.low (by omega) (lw2 h.n (by omega) (kp1.low (by omega) lo))), i + 1, xs2, zs2, ys4, lv4, rfl, by omega, by simp only [fsTm, Nat.reduceBEq, Nat.reduceLT, el], ?_⟩
  rw [fold_take addC [] hd]
  exact ⟨by rw [fr4 _ (by omega) (by omega), kp3.get _ (by omega)]; exact pa2, l642, (ar2.off kn3 fun b _ h2 => kp3.get b h2).off kn4 fun b h1 h2 => fr4 b h2 (by omega), pb4, row4, ay4, by omega, by omega, rfl, mark0, rfl, rfl⟩
 case neg =>
 obtain rfl : i = fs.length := by omega
 have l1 : decide ((fs.length : Int) < (fs.length : Int)) = false := by rw [decide_eq_false_iff_not]; omega
 rw [F.same, List.take_length] at K
 replace K : Bks (h.n + 1) (h.n + 2) (filled fds) marks0 false H xs zs ys lv := K
 have G : Good (filled fds) := good_fill _ Good.nil
 have lvM : ∀ hh, lenV mv hh = some (.int .i64 (mks.length : Int), hh) := fun hh => by rw [hmv]; rfl
 (have fct := Fj @el (Fj @t1 (Fj @t5 (Fj @t6 (Fj @e7 (Fj @l1 (Fj @b0 @lvF)))))); refine GOD ?_; clear fct)
 refine CodeK_loop (MoI h fv mv op (filled fds) mks) mks.length ?_ ?_
 · exact ⟨by simp only [List.length_set, el], by simp only [fsTm, Nat.reduceBEq, Nat.reduceLT, el, t1], by simp only [fsTm, Nat.reduceBEq, Nat.reduceLT, el, t5], by simp only [fsTm, Nat.reduceBEq, Nat.reduceLT, el, t6], b0, old, lo, 0, xs, zs, ys, lv, rfl, by omega, by simp only [fsTm, Nat.reduceBEq, Nat.reduceLT, el]; rfl, K⟩
 clear el t1 t5 t6 b0 old lo K e7 hbn hni hi l1 xs zs ys lv tm H n
 intro n tm H I
 obtain ⟨i, xs, zs, ys, lv, hni, hi, e8, K⟩ := I.st
 have el := I.len
 have t1 := I.t1
 have t5 := I.t5
 have t6 := I.t6
 have b0 := I.bx
 have old := I.old
 have lo := I.low
 clear I
 have hbn := K.bn
 have hxl : xs.length ≤ 64 := by have := K.l64; omega
 have hyl : ys.length ≤ 64 := by rw [K.ay.1]; exact G.len
 by_cases hlt : i < mks.length
 case pos =>
  have l1 : decide ((i : Int) < (mks.length : Int)) = true := by rw [decide_eq_true_eq]; omega
  obtain ⟨m, hm⟩ : ∃ m, mks[i]? = some m := ⟨_, List.getElem?_eq_getElem hlt⟩
  have hmr := F.mrng m (List.mem_of_getElem? hm)
  obtain ⟨rb, ro, rcells, rro, rc, hmv2, hrb, hrg, hcut⟩ := F.marks.at hm
  have hg0 := (old rb hrb).trans hrg
  have a1 := fun (hh : AH) => iaddrV_nat (h := hh) (esz := 4) (b := rb) (o := ro) (c := rc) (k := .i64) hlt
  rw [← hmv2] at a1
  have hc1 : (ro + (i * 4 + 4) ≤ rcells.length) = True := by have := (cut_parts hcut).1; simp; omega
  have hc2 := (cut_parts hcut).2
  have w1 : IntKind.wrap .i64 ((i : Int) + 1) = ((i + 1 : Nat) : Int) := by have := F.big.2; rw [wrap_i64 (by omega) (by omega)]; omega
  have l64' : (xs ++ zs).length = 64 := by rw [List.length_append]; exact K.l64
  (have fct := Fj @el (Fj @t1 (Fj @t5 (Fj @t6 (Fj @e8 (Fj @l1 (Fj @b0 (Fj @lvM (Fj @hg0 (Fj @hc1 (Fj @hc2 @a1)))))))))); refine GOD ?_; clear fct)
  refine D_ex rfl rfl (by simp (maxDischargeDepth := 12) only [opsB, Nat.reduceEqDiff, Nat.reduceBEq, Nat.reduceBNe, Int.reduceBEq, Int.reduceBNe, Int.reduceLT, Int.reduceLE, Int.reduceEq, AV.one, AV.cells, CA.ev, abin, aint, aun, isShift, readVar, readCell, readCells, writeCells, fillA, reduceIte, Nat.reduceAdd, Nat.reduceSub, Nat.reduceLT, Nat.reduceLeDiff, resAll, resOne, AV.under, AV.unders, cut, el, fsTm, Nat.reduceBEq, Nat.reduceLT]; (first | done | with_reducible rfl)) (bmark_spec (orc := orc) (hnb _ (by simp)) m K.a (by omega) l64' K.m5 hmr (B.shut _) B.win B.bname) fun v2 H2 hh => ?_
  obtain ⟨rfl, q1, q2, kn2, fr2, lw2⟩ := hh
  refine D_tm (tm' := List.set _ 50 _) rfl ?_
  have b2 := (fr2 h.n (by omega) (by omega)).trans b0
  have old2 : ∀ b, b < h.n → H2.get b = h.get b := fun b hb => by rw [fr2 b (by omega) (by omega)]; exact old b hb
  have hg2 := (old2 rb hrb).trans hrg
  have pb2 : H2.get (h.n + 2) = some (.cells (rbC false lv ((mks.take i).foldl addM marks0)) false) := by rw [fr2 _ (by omega) (by omega)]; exact K.b
  (have fct := Fj @el (Fj @t1 (Fj @t5 (Fj @t6 (Fj @e8 (Fj @l1 (Fj @b2 (Fj @lvM (Fj @hg2 (Fj @hc1 (Fj @hc2 @a1)))))))))); refine GOD ?_; clear fct)
  refine D_ex rfl rfl (by simp (maxDischargeDepth := 12) only [opsB, Nat.reduceEqDiff, Nat.reduceBEq, Nat.reduceBNe, Int.reduceBEq, Int.reduceBNe, Int.reduceLT, Int.reduceLE, Int.reduceEq, AV.one, AV.cells, CA.ev, abin, aint, aun, isShift, readVar, readCell, readCells, writeCells, fillA, reduceIte, Nat.reduceAdd, Nat.reduceSub, Nat.reduceLT, Nat.reduceLeDiff, resAll, resOne, AV.under, AV.unders, cut, el, fsTm, Nat.reduceBEq, Nat.reduceLT]; (first | done | with_reducible rfl)) (rmark_spec (orc := orc) (hnb _ (by simp)) m pb2 (by omega) K.m5 K.m0 hmr (B.rnone _) B.rname) fun v4 H4 hh => ?_
  obtain ⟨rfl, r1, r2, kn4, fr4, lw4⟩ := hh
  refine D_tm (tm' := List.set _ 57 _) rfl ?_
  have n1 : (markE ((mks.take i).foldl addM marks0) m != markE ((mks.take i).foldl addM marks0) m) = false := bne_self_eq_false _
  (have fct := Fj @el (Fj @t1 (Fj @t5 (Fj @t6 (Fj @e8 (Fj @n1 (Fj @w1 (Fj @b0 (Fj @b2 (Fj @hg0 (Fj @hg2 (Fj @hc1 @hc2))))))))))); refine GOD ?_; clear fct)
  refine ⟨mks.length - (i + 1), by omega, by simp only [List.length_set, el], by simp only [fsTm, Nat.reduceBEq, Nat.reduceLT, el, t1], by simp only [fsTm, Nat.reduceBEq, Nat.reduceLT, el, t5], by simp only [fsTm, Nat.reduceBEq, Nat.reduceLT, el, t6], by rw [fr4 _ (by omega) (by omega)]; exact b2, fun b hb => by rw [fr4 _ (by omega) (by omega)]; exact old2 b hb,
   lw4 h.n (by omega) (lw2 h.n (by omega) lo), i + 1, xs, zs, ys, lv, rfl, by omega, by simp only [fsTm, Nat.reduceBEq, Nat.reduceLT, el], ?_⟩
  rw [fold_take addM marks0 hm]
  generalize (mks.take i).foldl addM marks0 = ms at *
  have ax4 : Ares (h.n + 2 + 1) H4 xs (filled fds) := (K.ax.off kn2 fun b h1 h2 => fr2 b h2 (by omega)).off kn4 fun b h1 h2 => fr4 b h2 (by omega)
  have ay4 : Ares (h.n + 2 + 1) H4 ys (filled fds) := (K.ay.off kn2 fun b h1 h2 => fr2 b h2 (by omega)).off kn4 fun b h1 h2 => fr4 b h2 (by omega)
  have row4 : RowW Cv.cells 9 (h.n + 2 + 1) H4 lv ys := (K.row.keep kn2 fun b h1 h2 => fr2 b h2 (by omega)).keep kn4 fun b h1 h2 => fr4 b h2 (by omega)
  by_cases hz : markE ms m = 0
  · have e9 : addM ms m = ms.set m.m.toNat m := by unfold addM; rw [if_pos hz]
    rw [e9]
    refine ⟨by rw [fr4 _ (by omega) (by omega)]; exact q2 hz, K.l64, ax4, r2 hz, row4, ay4, by omega, by omega, by rw [List.length_set]; exact K.m5, ?_⟩
    obtain ⟨z, hz0, hzs⟩ := K.m0
    refine ⟨z, ?_, hzs⟩
    have hbad : badM m = false := by
     unfold markE at hz
     cases hb : badM m with
     | false => rfl
     | true => rw [hb, if_pos rfl] at hz; cases hz
    unfold badM at hbad
    simp only [Bool.or_eq_false_iff] at hbad
    have := of_decide_eq_false hbad.1.1.1
    rw [List.getElem?_set_ne (by omega)]
    exact hz0
  · have e9 : addM ms m = ms := by unfold addM; rw [if_neg hz]
    rw [e9]
    have e10 := q1 hz
    have e11 := r1 hz
    subst e10
    subst e11
    exact ⟨K.a, K.l64, ax4, K.b, row4, ay4, by omega, by omega, K.m5, K.m0⟩
 case neg =>
 obtain rfl : i = mks.length := by omega
 have l1 : decide ((mks.length : Int) < (mks.length : Int)) = false := by rw [decide_eq_false_iff_not]; omega
 rw [List.take_length] at K
 replace K : Bks (h.n + 1) (h.n + 2) (filled fds) (marked mks) false H xs zs ys lv := K
 have fin : ∀ (sh : Bool) (X : AH), shutB op (filled fds) = sh → Bks (h.n + 1) (h.n + 2) (filled fds) (marked mks) sh X xs zs ys lv → h.n ≤ X.low → (∀ b, b < h.n → X.get b = h.get b) →
     ∃ pa pb xs zs ys lv, AV.tuple [.ptr (some (h.n + 1, 0)), .ptr (some (h.n + 2, 0)), .bool true] = AV.tuple [.ptr (some (pa, 0)), .ptr (some (pb, 0)), .bool true] ∧ h.n ≤ pa ∧ Bks pa pb (filled fds) (marked mks) (shutB op (filled fds)) (Fs.settle h X (.tuple [.ptr (some (h.n + 1, 0)), .ptr (some (h.n + 2, 0)), .bool true])).2 xs zs ys lv ∧
      h.n ≤ (Fs.settle h X (.tuple [.ptr (some (h.n + 1, 0)), .ptr (some (h.n + 2, 0)), .bool true])).2.n ∧ (∀ b, b < h.n → (Fs.settle h X (.tuple [.ptr (some (h.n + 1, 0)), .ptr (some (h.n + 2, 0)), .bool true])).2.get b = h.get b) ∧ (∀ N, N ≤ h.n → N ≤ h.low → N ≤ (Fs.settle h X (.tuple [.ptr (some (h.n + 1, 0)), .ptr (some (h.n + 2, 0)), .bool true])).2.low) := fun sh X hs KX lx ox => by
  rw [settle_new (by simp [AV.under, AV.unders]), hs]
  have := KX.bn
  exact ⟨_, _, xs, zs, ys, lv, rfl, by omega, KX.off (by simp) fun b _ => rfl, by simp; omega, ox, fun N h1 h2 => by simp; omega⟩
 cases op with
 | true =>
   have s1 := sealed_spec (orc := orc) (fun f hf => hnb f (by revert hf; simp only [List.mem_cons, List.mem_nil_iff, or_false]; intro hf; omega)) K.a (bk_0 _ _ _ _) (bk_1 _ _ _ _)
   have s2 := rsealed_spec (orc := orc) (fun f hf => hnb f (by revert hf; simp only [List.mem_cons, List.mem_nil_iff, or_false]; intro hf; omega)) K.b (rb_0 _ _ _) (rb_1 _ _ _)
   have n2 : (false == false) = true := rfl
   (have fct := Fj @el (Fj @t1 (Fj @t5 (Fj @t6 (Fj @e8 (Fj @l1 (Fj @b0 (Fj @lvM (Fj @s1 (Fj @s2 @n2))))))))); refine GOD ?_; clear fct)
   exact ⟨.inr rfl, .tuple [.ptr (some (h.n + 1, 0)), .ptr (some (h.n + 2, 0)), .bool true], by simp [resAll, resOne, el, List.getElem?_set, t5, t6], fin false _ rfl K lo old⟩
 | false =>
   obtain ⟨v2, H2, f2, rfl, q1, q2, kn2, fr2, lw2⟩ := bseal_spec (orc := orc) (hnb _ (by simp)) K.a (by omega) K.l64 K.ax (B.shut _) (fun s X hX => by rw [← K.ax.names]; exact B.place _ _ _ _ _ s X hX hxl)
   have pb2 : H2.get (h.n + 2) = some (.cells (rbC false lv (marked mks)) false) := by rw [fr2 _ (by omega) (by omega)]; exact K.b
   have row2 : RowW Cv.cells 9 (h.n + 2 + 1) H2 lv ys := K.row.keep kn2 fun b h1 h2 => fr2 b h2 (by omega)
   have ay2 : Ares (h.n + 2 + 1) H2 ys (filled fds) := K.ay.off kn2 fun b h1 h2 => fr2 b h2 (by omega)
   obtain ⟨v4, H4, f4, rfl, r1, r2, kn4, fr4, lw4⟩ := rseal_spec (orc := orc) (hnb _ (by simp)) pb2 (by omega) hyl row2 ay2 (B.rnone _) (fun s X hX hr => by rw [← K.ay.names]; exact B.rplace _ _ _ _ _ _ s X hX hr hyl)
   have n1 : (sealE (filled fds) != sealE (filled fds)) = false := bne_self_eq_false _
   have hx : ∃ sh, shutB false (filled fds) = sh ∧ Bks (h.n + 1) (h.n + 2) (filled fds) (marked mks) sh H4 xs zs ys lv := by
    by_cases hz : sealE (filled fds) = 0
    · refine ⟨true, by simp [shutB, hz], ?_⟩
      exact ⟨by rw [fr4 _ (by omega) (by omega)]; exact q2 hz, K.l64, (K.ax.off kn2 fun b h1 h2 => fr2 b h2 (by omega)).off kn4 fun b h1 h2 => fr4 b h2 (by omega), r2 hz, row2.keep kn4 fun b h1 h2 => fr4 b h2 (by omega), ay2.off kn4 fun b h1 h2 => fr4 b h2 (by omega), by omega, by omega, K.m5, K.m0⟩
    · refine ⟨false, by simp [shutB, hz], ?_⟩
      have e10 := q1 hz
      have e11 := r1 hz
      subst e10
      subst e11
      exact K
   obtain ⟨sh, hsh, K4⟩ := hx
   have s1 := sealed_spec (orc := orc) (fun f hf => hnb f (by revert hf; simp only [List.mem_cons, List.mem_nil_iff, or_false]; intro hf; omega)) K4.a (bk_0 _ _ _ _) (bk_1 _ _ _ _)
   have s2 := rsealed_spec (orc := orc) (fun f hf => hnb f (by revert hf; simp only [List.mem_cons, List.mem_nil_iff, or_false]; intro hf; omega)) K4.b (rb_0 _ _ _) (rb_1 _ _ _)
   have n2 : (sh == sh) = true := by simp
   (have fct := Fj @el (Fj @t1 (Fj @t5 (Fj @t6 (Fj @e8 (Fj @l1 (Fj @b0 (Fj @lvM (Fj @f2 (Fj @f4 (Fj @n1 (Fj @s1 (Fj @s2 @n2)))))))))))); refine GOD ?_; clear fct)
   exact ⟨.inr rfl, .tuple [.ptr (some (h.n + 1, 0)), .ptr (some (h.n + 2, 0)), .bool true], by simp [resAll, resOne, el, List.getElem?_set, t5, t6], fin sh _ hsh K4 (lw4 h.n (by omega) (lw2 h.n (by omega) lo)) fun b hb => by rw [fr4 b (by omega) (by omega), fr2 b (by omega) (by omega)]; exact old b hb⟩
end Go.Proofs.Cards
