/- The book asked for a card of a number; a deck's check. -/
import Derived.Test.YtlppecefalblmaaGreatDoorFz05
import Derived.Test.YtlppecefalblmaaGreatDoorZtBkFill
namespace Go.Proofs.Cards
set_option maxRecDepth 100000
set_option maxHeartbeats 32000000
open Go Go.Fs
set_option linter.unusedSimpArgs false
set_option linter.unusedVariables false
variable {orc : Orc}
def cf69 : CF := ⟨21, [(.cell 2 (some 2))], (.seq (.region [Zo 2 (.alloc [(.int .i64 0), (.int .i64 0)])]) (.seq (.seq (.region [Zm 6 0, Zo 7 (.call (.f 79) [(.t 6), (.c (.str []))]), Zm 5 7, Ze 8 0 5, Ze 9 1 5, Zm 3 8, Zm 4 9]) (.block 0 (.seq (.region [Zm 11 4, Zb 12 .eql (.t 11) (.c (.int .i64 1)), Zm 10 12]) (.cond (.t 10) (.seq (.region [Zm 13 4, Zo 14 (.call (.f 70) [(.t 13)]), Zn (.store 2 (.t 2) (.t 14))]) .ret) (.seq (.region [Zm 16 0, Zo 17 (.call (.f 33) [(.t 16)]), Zo 18 (.un .not (.t 17)), Zm 15 18]) (.cond (.t 15) (.seq (.region [Zo 19 (.call (.f 70) [(.c (.int .i64 2))]), Zn (.store 2 (.t 2) (.t 19))]) .ret) .skip)))))) (.seq (.region [Zo 20 (.build [(.int .i64 0), (.int .i64 0)] []), Zn (.store 2 (.t 2) (.t 20))]) .ret)))⟩
def cf70 : CF := ⟨5, [(.cell 2 (some 2))], (.seq (.region [Zo 2 (.alloc [(.int .i64 0), (.int .i64 0)])]) (.seq (.region [Zm 3 0, Zo 4 (.build [(.int .i64 0), (.int .i64 0)] [(0, (1, (.t 3))), (1, (1, (.c (.int .i64 (-1)))))]), Zn (.store 2 (.t 2) (.t 4))]) .ret))⟩
def cf25 : CF := ⟨60, [(.cell 4 (some 2))], (.seq (.region [Zo 4 (.alloc [(.int .i64 0), (.int .i64 0)])]) (.seq (.seq (.region [Zm 11 0, Zo 12 (.call (.f 69) [(.t 11)]), Zo 5 (.alloc [(.int .i64 0), (.int .i64 0)]), Zn (.store 2 (.t 5) (.t 12))]) (.seq (.region [Zo 13 (.load (some 2) (.t 5)), Zo 14 (.build [(.int .i64 0), (.int .i64 0)] []), Zo 15 (.bin .neq (.agg 2 [(0, .i), (1, .i)]) (.t 13) (.t 14))]) (.cond (.t 15) (.seq (.region [Zo 16 (.load (some 2) (.t 5)), Zn (.store 2 (.t 4) (.t 16))]) .ret) .skip))) (.seq (.seq (.region [Zm 17 1, Zo 18 (.lenV (.t 17)), Zb 19 .lss (.t 18) (.c (.int .i64 12)), Zm 20 19, Zg 21 (.mv (.t 1)) 20 false, Zg 22 (.lenV (.t 21)) 20 false, Zg 23 (.bin .gtr .other (.t 22) (.c (.int .i64 40))) 20 false, Zo 24 (.pick (.t 20) (.c (.bool true)) (.t 23))]) (.cond (.t 24) (.seq (.region [Zo 25 (.call (.f 70) [(.c (.int .i64 9))]), Zn (.store 2 (.t 4) (.t 25))]) .ret) .skip)) (.seq (.region [Zo 6 (.alloc [(.int .i64 0), (.int .i64 0), (.int .i64 0), (.int .i64 0), (.int .i64 0), (.int .i64 0), (.int .i64 0), (.int .i64 0), (.int .i64 0), (.int .i64 0), (.int .i64 0), (.int .i64 0), (.int .i64 0), (.int .i64 0), (.int .i64 0), (.int .i64 0), (.int .i64 0), (.int .i64 0), (.int .i64 0), (.int .i64 0), (.int .i64 0), (.int .i64 0), (.int .i64 0), (.int .i64 0), (.int .i64 0), (.int .i64 0), (.int .i64 0), (.int .i64 0), (.int .i64 0), (.int .i64 0), (.int .i64 0), (.int .i64 0), (.int .i64 0), (.int .i64 0), (.int .i64 0), (.int .i64 0), (.int .i64 0), (.int .i64 0), (.int .i64 0), (.int .i64 0), (.int .i64 0), (.int .i64 0), (.int .i64 0), (.int .i64 0), (.int .i64 0), (.int .i64 0), (.int .i64 0), (.int .i64 0), (.int .i64 0), (.int .i64 0), (.int .i64 0), (.int .i64 0), (.int .i64 0), (.int .i64 0), (.int .i64 0), (.int .i64 0), (.int .i64 0), (.int .i64 0), (.int .i64 0), (.int .i64 0), (.int .i64 0), (.int .i64 0), (.int .i64 0), (.int .i64 0), (.int .i64 0)])]) (.seq (.seq (.region [Zm 26 1, Zo 27 (.lenV (.t 26)), Zo 28 (.mv (.c (.int .i64 0)))]) (.block 0 (.loop (.seq (.region [Zb 29 .lss (.t 28) (.t 27)]) (.seq (.cond (.t 29) .skip (.exit 0)) (.seq (.block 1 (.seq (.region [Zm 30 28, Zo 31 (.iaddrS 1 (.t 26) (.t 28)), Zl 32 31, Zm 7 30, Zm 8 32]) (.seq (.region [Zm 34 0, Zm 35 8, Zo 36 (.call (.f 34) [(.t 34), (.t 35)]), Zm 33 36, Ze 37 0 33, Ze 38 1 33, Zo 9 (.alloc [(.str []), (.int .u8 0), (.int .u8 0), (.int .i64 0), (.int .i64 0), (.int .i64 0), (.int .u16 0), (.bool false), (.slice none 0 (.exact 0))]), Zn (.store 9 (.t 9) (.t 37)), Zm 10 38]) (.seq (.seq (.region [Zm 39 10, Zb 40 .neq (.t 39) (.c (.int .i64 0))]) (.cond (.t 40) (.seq (.region [Zm 41 7, Zo 42 (.build [(.int .i64 0), (.int .i64 0)] [(0, (1, (.c (.int .i64 6)))), (1, (1, (.t 41)))]), Zn (.store 2 (.t 4) (.t 42))]) .ret) .skip)) (.seq (.region [Zm 43 8, Zo 44 (.iaddrA 65 1 (.t 6) (.t 43)), Zl 45 44, Zb 46 .add (.t 45) (.c (.int .i64 1)), Zo 47 (.iaddrA 65 1 (.t 6) (.t 43)), Zn (.store 1 (.t 47) (.t 46))]) (.seq (.region [Zf 48 7 9, Zl 49 48, Zm 50 49, Zg 51 (.mv (.t 8)) 50 false, Zg 52 (.iaddrA 65 1 (.t 6) (.t 51)) 50 false, Zg 53 (.load none (.t 52)) 50 false, Zg 54 (.bin .gtr .other (.t 53) (.c (.int .i64 3))) 50 false, Zo 55 (.pick (.t 50) (.c (.bool true)) (.t 54))]) (.cond (.t 55) (.seq (.region [Zm 56 7, Zo 57 (.build [(.int .i64 0), (.int .i64 0)] [(0, (1, (.c (.int .i64 9)))), (1, (1, (.t 56)))]), Zn (.store 2 (.t 4) (.t 57))]) .ret) .skip))))))) (.region [Zb 58 .add (.t 28) (.c (.int .i64 1)), Zm 28 58]))))))) (.seq (.region [Zo 59 (.build [(.int .i64 0), (.int .i64 0)] []), Zn (.store 2 (.t 4) (.t 59))]) .ret))))))⟩
theorem tbl69 : tbl Tryz.prog 69 = some cf69 := by kernel_rfl
theorem tbl70 : tbl Tryz.prog 70 = some cf70 := by kernel_rfl
theorem tbl25 : tbl Tryz.prog 25 = some cf25 := by kernel_rfl
def atD (sh : Bool) (ds : List Cd) (n : Int) : Option Cd := if (sh && (decide (1 ≤ n) && decide (n ≤ (ds.length : Int)))) = true then ds[(n - 1).toNat]? else none
structure Bk1 (pa N : Nat) (ds : List Cd) (ms : List Mrk) (sh : Bool) (H : AH) (xs zs : List Cv) : Prop where
 a : H.get pa = some (.cells (bkC sh xs.length (xs ++ zs) ms) false)
 l64 : xs.length + zs.length = 64
 ax : Ares N H xs ds
 pn : pa < H.n
 sz : ∀ d ∈ ds, d.2.length * 40 ≤ 140737488355328
theorem Bk1.off {pa N : Nat} {ds : List Cd} {ms : List Mrk} {sh : Bool} {H X : AH} {xs zs : List Cv} (B : Bk1 pa N ds ms sh H xs zs) (hn : H.n ≤ X.n) (hX : ∀ b, b < H.n → X.get b = H.get b) : Bk1 pa N ds ms sh X xs zs :=
 ⟨by rw [hX pa B.pn]; exact B.a, B.l64, B.ax.off hn fun b _ hb => hX b hb, Nat.lt_of_lt_of_le B.pn hn, B.sz⟩
def AtR (h1 : AH) (o : Option Cd) (v1 : AV) : Prop := match o with
 | some d => ∃ w, v1 = .tuple [.agg (d.1.cells w), .int .i64 0] ∧ Parts h1 w d.2
 | none => v1 = .tuple [.agg (zeroC.cells nilV), .int .i64 6]
theorem at_spec (M : Nat) (ho : ∀ f, f ∈ [34, 85] → orc f = none) (hC : ∀ (c : Crd) (ps : List Prt), ps.length * 40 ≤ 140737488355328 → ∀ (N : Nat) (v : AV) (X : AH), Parts X v ps → N ≤ X.n → ∃ v1 h1, acall orc T 10 [.agg (c.cells v)] X = some (v1, h1) ∧ ∃ v', v1 = .agg (c.cells v') ∧ Ef.Kp N X h1 ∧ Parts h1 v' ps ∧ Own X.n h1 v' ps)
    {pa N : Nat} {ds : List Cd} {ms : List Mrk} {sh : Bool} {h : AH} {xs zs : List Cv} (B : Bk1 pa N ds ms sh h xs zs) (n : Int) (hM : M ≤ h.n) :
    ∃ v1 h1, acall orc T 34 [.ptr (some (pa, 0)), .int .i64 n] h = some (v1, h1) ∧ Ef.Kp M h h1 ∧ AtR h1 (atD sh ds n) v1 := by
 refine acall_facts (R := fun v1 h1 => Ef.Kp M h h1 ∧ AtR h1 (atD sh ds n) v1) (ho _ (by simp)) tbl34 ?_
 simp only [Ef.settle_fst1]
 have g1 : ∀ b, b < h.n → ((h.withLow h.n).push (.cells (zeroC.cells nilV) false)).get b = h.get b := fun b hb => by rw [Hp.get_push_ne _ _ _ (by simp; omega)]; rfl
 have ha1 := (g1 pa B.pn).trans B.a
 have cN := none_spec (orc := orc) (ho _ (by simp)) ha1 (bk_0 _ _ _ _)
 have k1 := bk_1 sh xs.length (xs ++ zs) ms
 have k2 := bk_2 sh xs.length (xs ++ zs) ms
 have hb := B.a
 have hxd := B.ax.1
 have y1 : (pa = h.n) = False := by have := B.pn; simp; omega
 have fz : ∀ tm : List AV, fillA tm (zeroC.cells nilV) [] = some (zeroC.cells nilV) := fun tm => rfl
 have z0 : (zeroC.cells nilV).all AV.one = true := rfl
 refine GD ?_
 simp only [show ([AV.str [], AV.int .u8 0, AV.int .u8 0, AV.int .i64 0, AV.int .i64 0, AV.int .i64 0, AV.int .u16 0, AV.bool false, AV.slice none 0 (.exact 0)] : List AV) = zeroC.cells nilV from rfl]
 have res0 : ∀ (tm : List AV) (H : AH) (w : AV) (c : Crd) (e : Int), tm.getD 4 AV.undef = .ptr (some (h.n, 0)) → tm.getD 5 AV.undef = .int .i64 e → H.get h.n = some (.cells (c.cells w) false) → resAll tm H [CRes.cell 4 (some 9), CRes.tmp 5] = some (.tuple [.agg (c.cells w), .int .i64 e]) := fun tm H w c e h4 h5 hg => by
  have hv : readVar H h.n 0 (some 9) = some (.agg (c.cells w)) := by simp [readVar, readCells, hg, cut, cells_len, cells_take]
  unfold resAll
  simp only [List.mapM_cons, List.mapM_nil, resOne, h4, h5, hv]
  rfl
 have bad : atD sh ds n = none → ∀ (H : AH), H.n = h.n + 1 → (∀ b, b < h.n → H.get b = h.get b) → h.n ≤ H.low → Ef.Kp M h (Fs.settle h H (.tuple [.agg (zeroC.cells nilV), .int .i64 6])).2 ∧ AtR (Fs.settle h H (.tuple [.agg (zeroC.cells nilV), .int .i64 6])).2 (atD sh ds n) (.tuple [.agg (zeroC.cells nilV), .int .i64 6]) := fun e H h1 h2 h3 => by
  refine ⟨Ef.kp_settle (by omega) h2 h3, ?_⟩
  rw [e]
  rfl
 cases sh with
 | false =>
   have e : atD false ds n = none := rfl
   (have fct := Fj @cN (Fj @hb (Fj @k1 (Fj @y1 (Fj @fz (Fj @z0 (Fj @ov_9 (Fj @op_nilchk (Fj @nilcV_ptr @cells_len)))))))); refine GO ?_; clear fct)
   exact ⟨.inr rfl, _, res0 _ _ nilV zeroC 6 rfl rfl (Hp.get_set_self _ _ _), bad e _ (by simp) (fun b hb => by rw [Hp.get_set_ne _ _ _ _ (by omega)]; exact g1 b hb) (by simp)⟩
 | true =>
 by_cases h1 : n < 1
 · have d1 : decide (n < 1) = true := decide_eq_true h1
   have e : atD true ds n = none := by unfold atD; rw [if_neg]; simp; omega
   (have fct := Fj @cN (Fj @hb (Fj @k1 (Fj @y1 (Fj @d1 (Fj @fz (Fj @z0 (Fj @ov_9 (Fj @op_nilchk (Fj @nilcV_ptr @cells_len))))))))); refine GO ?_; clear fct)
   exact ⟨.inr rfl, _, res0 _ _ nilV zeroC 6 rfl rfl (Hp.get_set_self _ _ _), bad e _ (by simp) (fun b hb => by rw [Hp.get_set_ne _ _ _ _ (by omega)]; exact g1 b hb) (by simp)⟩
 have d1 : decide (n < 1) = false := decide_eq_false h1
 by_cases h2 : (xs.length : Int) < n
 · have d2 : decide ((xs.length : Int) < n) = true := decide_eq_true h2
   have e : atD true ds n = none := by unfold atD; rw [if_neg]; simp; omega
   (have fct := Fj @cN (Fj @hb (Fj @k1 (Fj @k2 (Fj @y1 (Fj @d1 (Fj @d2 (Fj @fz (Fj @z0 (Fj @ov_9 (Fj @op_nilchk (Fj @nilcV_ptr @cells_len))))))))))); refine GO ?_; clear fct)
   exact ⟨.inr rfl, _, res0 _ _ nilV zeroC 6 rfl rfl (Hp.get_set_self _ _ _), bad e _ (by simp) (fun b hb => by rw [Hp.get_set_ne _ _ _ _ (by omega)]; exact g1 b hb) (by simp)⟩
 have d2 : decide ((xs.length : Int) < n) = false := decide_eq_false h2
 obtain ⟨k, rfl⟩ : ∃ k : Nat, n = (k : Int) + 1 := ⟨(n - 1).toNat, by omega⟩
 obtain ⟨x, hx⟩ : ∃ x, xs[k]? = some x := ⟨_, List.getElem?_eq_getElem (by omega)⟩
 obtain ⟨d, hd, hxc, hown, hprt⟩ := B.ax.ext hx
 have e : atD true ds ((k : Int) + 1) = some d := by
  unfold atD
  rw [if_pos (by simp; omega), show ((k : Int) + 1 - 1).toNat = k by omega]
  exact hd
 have hL : (xs ++ zs)[k]? = some x := by rw [List.getElem?_append_left (by omega)]; exact hx
 obtain ⟨c2, c1⟩ := bk_at true xs.length ms hL
 have c1' : (3 + (k * 9 + 9) ≤ (bkC true xs.length (xs ++ zs) ms).length) = True := by simp; omega
 have w1 : IntKind.wrap .i64 ((k : Int) + 1 - 1) = (k : Int) := by have := B.l64; rw [wrap_i64 (by omega) (by omega)]; omega
 have a1 := fun (hh : AH) => iaddrA_nat (h := hh) (n := 64) (esz := 9) (b := pa) (o := 3) (k := .i64) (show k < 64 by have := B.l64; omega)
 (have fct := Fj @cN (Fj @hb (Fj @k1 (Fj @k2 (Fj @y1 (Fj @d1 (Fj @d2 (Fj @w1 (Fj @a1 (Fj @c1' (Fj @c2 (Fj @op_nilchk (Fj @nilcV_ptr @Ef.op_iaddrA)))))))))))); refine GO ?_; clear fct)
 have hsz := B.sz d (List.mem_of_getElem? hd)
 have xe : x.cells = d.1.cells x.sl := by unfold Cv.cells; rw [hxc]
 have cc := hC d.1 d.2 hsz h.n x.sl ((h.withLow h.n).push (.cells (zeroC.cells nilV) false)) (hprt.mono (by simp) g1) (by simp)
 rw [← xe] at cc
 refine R_ex (by simp (maxDischargeDepth := 12) only [opsB, Nat.reduceEqDiff, Nat.reduceBEq, Nat.reduceBNe, Int.reduceBEq, Int.reduceBNe, Int.reduceLT, Int.reduceLE, Int.reduceEq, AV.one, AV.cells, CA.ev, abin, aint, aun, isShift, readVar, readCell, readCells, writeCells, fillA, reduceIte, Nat.reduceAdd, Nat.reduceSub, Nat.reduceLT, Nat.reduceLeDiff, resAll, resOne, AV.under, AV.unders, cut]; (first | done | with_reducible rfl)) cc fun v1 H1 hh => ?_
 obtain ⟨w, rfl, kp, pp, ow⟩ := hh
 obtain ⟨wa, wc, rfl⟩ := ow.slice
 refine A_tm ?_
 have kn := kp.n
 simp only [Hp.n_push, Hp.n_withLow] at kn
 have hz1 : H1.get h.n = some (.cells (zeroC.cells nilV) false) := by rw [kp.get h.n (by simp)]; exact Hp.get_push_self _ _
 have z1 : (d.1.cells (.slice wa d.2.length wc)).all AV.one = true := rfl
 (have fct := Fj @hz1 (Fj @z1 (Fj @ov_9 @cells_len)); refine GO ?_; clear fct)
 refine ⟨.inr rfl, _, res0 _ _ (.slice wa d.2.length wc) d.1 0 rfl rfl (Hp.get_set_self _ _ _), ?_⟩
 have gg : ∀ b, b < h.n → (H1.set h.n (.cells (d.1.cells (.slice wa d.2.length wc)) false)).get b = h.get b := fun b hb => by rw [Hp.get_set_ne _ _ _ _ (by omega), kp.get b (by simp; omega)]; exact g1 b hb
 refine ⟨Ef.kp_settle (by simp; omega) gg (by have := kp.low (by simp) (by simp); simp; omega), ?_⟩
 rw [e]
 refine ⟨_, rfl, ?_⟩
 rcases ow with ⟨e1, e2⟩ | ⟨b, o1, o2, o3, o4, o5⟩
 · rw [e2, e1]; exact ⟨_, _, rfl, by simp, .inl rfl⟩
 · simp only [AV.slice.injEq, true_and] at o3
   obtain ⟨rfl, rfl⟩ := o3
   simp only [Hp.n_push, Hp.n_withLow] at o1
   rw [settle_new (by simp [AV.under, AV.unders, Crd.cells]; omega)]
   refine own_prt (N := 0) (.inr ⟨b, by omega, by simpa using o2, rfl, ?_, o5⟩) (by omega)
   rw [Hp.get_withLow, Hp.get_set_ne _ _ _ _ (by omega)]
   exact o4
def flt (e a : Int) : AV := .agg [.int .i64 e, .int .i64 a]
theorem res_flt {tm : List AV} {h : AH} {t N : Nat} {e a : Int} {ro : Bool} (ht : tm.getD t AV.undef = .ptr (some (N, 0))) (hN : h.get N = some (.cells [.int .i64 e, .int .i64 a] ro)) : resAll tm h [CRes.cell t (some 2)] = some (flt e a) := by
 have hv : readVar h N 0 (some 2) = some (flt e a) := by simp [readVar, readCells, hN, cut, flt]
 unfold resAll
 simp only [List.mapM_cons, List.mapM_nil, resOne, ht, hv]
 try rfl
theorem ov_f (a b c d : AV) : Fs.over [a, b] 0 [c, d] = [c, d] := rfl
theorem dnone_spec (ho : orc 70 = none) (e : Int) (h : AH) : acall orc T 70 [.int .i64 e] h = some (flt e (-1), h) := by
 have hx : ∃ v1 h1, acall orc T 70 [.int .i64 e] h = some (v1, h1) ∧ v1 = flt e (-1) ∧ h1 = h := by
  refine acall_facts (R := fun v1 h1 => v1 = flt e (-1) ∧ h1 = h) ho tbl70 ?_
  simp only [Ef.settle_fst1]
  refine GD ?_
  have fz : ∀ tm : List AV, tm.getD 3 AV.undef = .int .i64 e → fillA tm [.int .i64 0, .int .i64 0] [(0, 1, .t 3), (1, 1, .c (.int .i64 (-1)))] = some [.int .i64 e, .int .i64 (-1)] := fun tm ht => by
   simp only [fillA, CA.ev, ht, AV.cells]
   rfl
  (have fct := @op_mv; refine GO ?_; clear fct)
  (have fct := Fj @Fs.over.eq_1 @ov_f; refine GO ?_; clear fct)
  refine ⟨.inr rfl, flt e (-1), res_flt rfl (Hp.get_set_self _ _ _), rfl, ?_⟩
  rw [settle_keep (by simp) rfl]
 obtain ⟨v1, h1, e1, rfl, rfl⟩ := hx
 exact e1
theorem asked_spec (ho : ∀ f, f ∈ [69, 70, 79, 85, 118, 33] → orc f = none) {pa N : Nat} {ds : List Cd} {ms : List Mrk} {sh : Bool} {h : AH} {xs zs : List Cv} (B : Bk1 pa N ds ms sh h xs zs) :
    acall orc T 69 [.ptr (some (pa, 0))] h = some (flt (if sh = true then 0 else 2) (if sh = true then 0 else -1), h) := by
 have sub : ∀ l : List Nat, (∀ f ∈ l, f ∈ [69, 70, 79, 85, 118, 33]) → ∀ f, f ∈ l → orc f = none := fun l hl f hf => ho f (hl f hf)
 have hx : ∃ v1 h1, acall orc T 69 [.ptr (some (pa, 0))] h = some (v1, h1) ∧ v1 = flt (if sh = true then 0 else 2) (if sh = true then 0 else -1) ∧ h1 = h := by
  refine acall_facts (R := fun v1 h1 => v1 = flt (if sh = true then 0 else 2) (if sh = true then 0 else -1) ∧ h1 = h) (ho _ (by simp)) tbl69 ?_
  simp only [Ef.settle_fst1]
  have g1 : ∀ b, b < h.n → ((h.withLow h.n).push (.cells [.int .i64 0, .int .i64 0] false)).get b = h.get b := fun b hb => by rw [Hp.get_push_ne _ _ _ (by simp; omega)]; rfl
  have ha1 := (g1 pa B.pn).trans B.a
  have hl := B.l64
  have f1 := find_spec (orc := orc) (sub _ (by decide)) [] ha1 (bk_0 _ _ _ _) (bk_1 _ _ _ _) (ns := xs.map (·.c.name)) (by rw [List.length_map]; exact bk_2 _ _ _ _) (by rw [List.length_map]; omega) (bk_names _ _ _ _ _)
  have f2 := sealed_spec (orc := orc) (sub _ (by decide)) ha1 (bk_0 _ _ _ _) (bk_1 _ _ _ _)
  have f3 := dnone_spec (orc := orc) (ho _ (by simp)) 2
  have n1 : (fndE sh (plc (xs.map (·.c.name)) [] 0) == 1) = false := by unfold fndE; split <;> rfl
  unfold flt at f3
  refine GD ?_
  cases sh with
  | true =>
    (have fct := Fj @f1 (Fj @f2 (Fj @n1 @ov_f)); refine GO ?_; clear fct)
    refine ⟨.inr rfl, flt 0 0, res_flt rfl (Hp.get_set_self _ _ _), rfl, ?_⟩
    rw [settle_keep (by simp) rfl]
  | false =>
    (have fct := Fj @f1 (Fj @f2 (Fj @f3 (Fj @n1 @ov_f))); refine GO ?_; clear fct)
    refine ⟨.inr rfl, flt 2 (-1), res_flt rfl (Hp.get_set_self _ _ _), rfl, ?_⟩
    rw [settle_keep (by simp) rfl]
 obtain ⟨v1, h1, e1, rfl, rfl⟩ := hx
 exact e1
end Go.Proofs.Cards
