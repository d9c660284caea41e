/- The reference's reader of cards. -/
import Derived.Test.YtjmhjipacmlojaaGreatDoorFz05
import Derived.Test.YtjmhjipacmlojaaGreatDoorZcCdHead
import Derived.Test.YtjmhjipacmlojaaGreatDoorZcCdParse
namespace Go.Proofs.Cards
set_option maxRecDepth 100000
set_option maxHeartbeats 32000000
open Go Go.Fs
set_option linter.unusedSimpArgs false
set_option linter.unusedVariables false
variable {orc : Orc}
def cf26 : CF := ⟨59, [(.cell 2 (some 9)), (.tmp 3)], (.seq (.region [Zo 2 (.alloc [(.str []), (.int .u8 0), (.int .u8 0), (.int .i64 0), (.int .i64 0), (.int .i64 0), (.int .u16 0), (.bool false), (.slice none 0 (.exact 0))]), Zo 3 (.mv (.c (.int .i64 0)))]) (.seq (.seq (.region [Zm 11 0, Zo 12 (.lenS (.t 11)), Zb 13 .gtr (.t 12) (.c (.int .i64 512))]) (.cond (.t 13) (.seq (.region [Zo 14 (.build [(.str []), (.int .u8 0), (.int .u8 0), (.int .i64 0), (.int .i64 0), (.int .i64 0), (.int .u16 0), (.bool false), (.slice none 0 (.exact 0))] []), Zn (.store 9 (.t 2) (.t 14)), Zo 3 (.mv (.c (.int .i64 3)))]) .ret) .skip)) (.seq (.region [Zm 15 0, Zo 16 (.call (.f 71) [(.t 15), (.c (.str [32, 124, 32]))]), Zm 4 16]) (.seq (.region [Zm 17 4, Zo 18 (.iaddrS 1 (.t 17) (.c (.int .i64 0))), Zl 19 18, Zo 20 (.call (.f 71) [(.t 19), (.c (.str [32]))]), Zo 21 (.call (.f 72) [(.t 20)]), Zo 5 (.alloc [(.str []), (.int .u8 0), (.int .u8 0), (.int .i64 0), (.int .i64 0), (.int .i64 0), (.int .u16 0), (.bool false), (.slice none 0 (.exact 0))]), Zn (.store 9 (.t 5) (.t 21))]) (.seq (.seq (.region [Zo 6 (.mv (.c (.int .i64 1)))]) (.block 0 (.loop (.seq (.seq (.region [Zm 22 6, Zm 23 4, Zo 24 (.lenV (.t 23)), Zb 25 .lss (.t 22) (.t 24)]) (.cond (.t 25) .skip (.exit 0))) (.seq (.block 1 (.seq (.region [Zm 29 4, Zm 30 6, Zo 31 (.iaddrS 1 (.t 29) (.t 30)), Zl 32 31, Zo 33 (.call (.f 21) [(.t 32)]), Zm 28 33, Ze 34 0 28, Ze 35 1 28, Zo 7 (.alloc [(.int .u8 0), (.int .u8 0), (.int .u8 0), (.int .i64 0), (.int .u8 0), (.int .u8 0), (.int .u8 0), (.str [])]), Zn (.store 8 (.t 7) (.t 34)), Zm 8 35]) (.seq (.seq (.region [Zm 36 8, Zb 37 .neq (.t 36) (.c (.int .i64 0))]) (.cond (.t 37) (.seq (.region [Zo 38 (.build [(.str []), (.int .u8 0), (.int .u8 0), (.int .i64 0), (.int .i64 0), (.int .i64 0), (.int .u16 0), (.bool false), (.slice none 0 (.exact 0))] []), Zn (.store 9 (.t 2) (.t 38)), Zo 3 (.mv (.c (.int .i64 160)))]) .ret) .skip)) (.region [Zf 39 8 5, Zl 40 39, Zo 41 (.load (some 8) (.t 7)), Zo 42 (.litS 8 1 [(.int .u8 0), (.int .u8 0), (.int .u8 0), (.int .i64 0), (.int .u8 0), (.int .u8 0), (.int .u8 0), (.str [])] [(0, (8, (.t 41)))]), Zo 43 (.append 8 40 (.t 40) (.t 42)), Zf 44 8 5, Zn (.store 1 (.t 44) (.t 43))])))) (.region [Zm 26 6, Zb 27 .add (.t 26) (.c (.int .i64 1)), Zm 6 27])))))) (.seq (.region [Zo 46 (.load (some 9) (.t 5)), Zo 47 (.call (.f 13) [(.t 46)]), Zm 45 47, Ze 48 0 45, Ze 49 1 45, Zm 9 48, Zm 10 49]) (.seq (.seq (.region [Zm 50 10, Zb 51 .neq (.t 50) (.c (.int .i64 0)), Zm 52 51, Zg 53 (.mv (.t 9)) 52 false, Zg 54 (.mv (.t 0)) 52 false, Zg 55 (.bin .neq .other (.t 53) (.t 54)) 52 false, Zo 56 (.pick (.t 52) (.c (.bool true)) (.t 55))]) (.cond (.t 56) (.seq (.region [Zo 57 (.build [(.str []), (.int .u8 0), (.int .u8 0), (.int .i64 0), (.int .i64 0), (.int .i64 0), (.int .u16 0), (.bool false), (.slice none 0 (.exact 0))] []), Zn (.store 9 (.t 2) (.t 57)), Zo 3 (.mv (.c (.int .i64 160)))]) .ret) .skip)) (.seq (.region [Zo 58 (.load (some 9) (.t 5)), Zn (.store 9 (.t 2) (.t 58)), Zo 3 (.mv (.c (.int .i64 0)))]) .ret))))))))⟩
theorem tbl26 : tbl Tryz.prog 26 = some cf26 := by kernel_rfl
theorem rparse_long (ho : orc 26 = none) (s : List UInt8) (hs : ¬ s.length ≤ 512) (h : AH) : acall orc T 26 [.str s] h = some (.tuple [.agg (zeroC.cells nilV), .int .i64 3], h) := by
 refine acall_sym ho tbl26 ?_
 have l1 : decide ((512 : Int) < (s.length : Int)) = true := by rw [decide_eq_true_eq]; omega
 refine GD ?_
 (have fct := @l1; refine GOD ?_; clear fct)
 (have fct := trivial; refine A_end ?_; clear fct; try exact trivial)
 exact ⟨rfl, rfl⟩
structure RiI (f : List UInt8 → Prt × Int) (hB h0 : AH) (N q b : Nat) (L : List (List UInt8)) (cap : Cap) (c : Crd) (s : List UInt8) (n : Nat) (tm : List AV) (h : AH) : Prop where
 len : tm.length = 59
 t0 : tm.getD 0 AV.undef = .str s
 t2 : tm.getD 2 AV.undef = .ptr (some (N, 0))
 t4 : tm.getD 4 AV.undef = .slice (some (b, 0)) L.length cap
 t5 : tm.getD 5 AV.undef = .ptr (some (q, 0))
 row : h.get b = some (.cells (L.map AV.str) false)
 bq : N < b ∧ b < q
 st : ∃ (i : Nat) (v : AV), n = L.length - (i + 1) ∧ i + 1 ≤ L.length ∧ tm.getD 6 AV.undef = .int .i64 ((i + 1 : Nat) : Int) ∧ (∀ x ∈ (L.drop 1).take i, (f x).2 = 0) ∧ PS hB h0 N q c v (((L.drop 1).take i).map fun x => (f x).1) h
theorem rcparse_walk (M : Nat) {h0 : AH} {f : List UInt8 → Prt × Int} (ho : ∀ g, g ∈ [26, 72, 71, 113, 114, 119, 104, 105, 120] → orc g = none) (hT : Ef.Told orc h0)
    (hE : ∀ (x : List UInt8) (h : AH), Grown h0 h → acall orc T 21 [.str x] h = some (.tuple [.agg (f x).1.cells, .int .i64 (f x).2], h)) (hFr : ∀ x, (f x).2 = 0 → (f x).1.rng)
    (hP : ∀ (c : Crd) (v : AV) (ps : List Prt) (h : AH), c.rng → (∀ p ∈ ps, p.rng) → Parts h v ps → Grown h0 h → acall orc T 13 [.agg (c.cells v)] h = some (.tuple [.str (txtC c ps), .int .i64 (chkC c ps)], h))
    (s : List UInt8) (hs : s.length ≤ 512) {h : AH} (hg : Grown h0 h) (c : Crd) (hc : c = goH 0 (pcs ((pcs s [32, 124, 32]).getD 0 []) [32]) zeroC) (hcr : c.rng) :
    ∃ v1 h1, acall orc T 26 [.str s] h = some (v1, h1) ∧ Parsed M h s c (decide (∀ x ∈ (pcs s [32, 124, 32]).drop 1, (f x).2 = 0), ((pcs s [32, 124, 32]).drop 1).map fun x => (f x).1) v1 h1 := by
 refine acall_facts (R := Parsed M h s c (decide (∀ x ∈ (pcs s [32, 124, 32]).drop 1, (f x).2 = 0), ((pcs s [32, 124, 32]).drop 1).map fun x => (f x).1)) (ho _ (by simp)) tbl26 ?_
 simp only [Ef.settle_fst1]
 have l1 : decide ((512 : Int) < (s.length : Int)) = false := by rw [decide_eq_false_iff_not]; omega
 obtain ⟨hL1, hL2⟩ := pcs_len s [32, 124, 32]
 have hLn : pcs s [32, 124, 32] ≠ [] := pcsR_ne _ _ _ _
 have hpos := List.length_pos_iff.2 hLn
 obtain ⟨x0, hx0⟩ : ∃ x, (pcs s [32, 124, 32])[0]? = some x := ⟨_, List.getElem?_eq_getElem hpos⟩
 have hx0l := hL2 x0 (List.mem_of_getElem? hx0)
 have ex0 : (pcs s [32, 124, 32]).getD 0 [] = x0 := by rw [List.getD_eq_getElem?_getD, hx0]; rfl
 rw [ex0] at hc
 refine GD ?_
 simp only [show ([AV.str [], AV.int .u8 0, AV.int .u8 0, AV.int .i64 0, AV.int .i64 0, AV.int .i64 0, AV.int .u16 0, AV.bool false, AV.slice none 0 (.exact 0)] : List AV) = zeroC.cells nilV from rfl]
 (have fct := @l1; refine GOD ?_; clear fct)
 refine R_ex (by simp (maxDischargeDepth := 12) only [opsB, Nat.reduceEqDiff, Nat.reduceBEq, Nat.reduceBNe, Int.reduceBEq, Int.reduceBNe, Int.reduceLT, Int.reduceLE, Int.reduceEq, AV.one, AV.cells, CA.ev, abin, aint, aun, isShift, readVar, readCell, readCells, writeCells, fillA, reduceIte, Nat.reduceAdd, Nat.reduceSub, Nat.reduceLT, Nat.reduceLeDiff, resAll, resOne, AV.under, AV.unders, cut]; (first | done | with_reducible rfl)) (pieces_spec h.n (ho _ (by simp)) s [32, 124, 32] (by omega) (by simp) (by simp) (h := (h.withLow h.n).push (.cells (zeroC.cells nilV) false)) (by simp)) fun v1 h1 hh => ?_
 obtain ⟨⟨b, cap, rfl, p1, p2, p3⟩, kp⟩ := hh
 refine A_tm ?_
 have res1 : h1.get h.n = some (.cells (zeroC.cells nilV) false) := by rw [kp.get h.n (by simp)]; exact Hp.get_push_self _ _
 have old1 : ∀ b, b < h.n → h1.get b = h.get b := fun b hb => by rw [kp.get b (by simp; omega), Hp.get_push_ne _ _ _ (by simp; omega)]; rfl
 have g1 : Grown h0 h1 := Ef.Grown.kp ((hg.low _).push _) kp
 have lo1 : h.n ≤ h1.low := kp.low (by simp) (by simp)
 have hn1 : h.n < h1.n := by have := kp.n; simp at this; omega
 have hbN : h.n < b := by simp at p2; omega
 clear kp p2
 generalize hL : pcs s [32, 124, 32] = L at *
 have m0 : (L.map AV.str)[0]? = some (.str x0) := by rw [List.getElem?_map, hx0]; rfl
 have a0 : ∀ hh : AH, iaddrV 1 (.slice (some (b, 0)) L.length cap) (.int .i64 0) hh = some (.ptr (some (b, 0)), hh) := fun hh => iaddrV_at (h := hh) (esz := 1) (b := b) (o := 0) (len := L.length) (c := cap) (k := .i64) (n := 0) (by omega) (by omega)
 (have fct := Fj @a0 (Fj @p1 (Fj @m0 (Fj @Nat.mul_one (Fj @Nat.zero_mul @Int.toNat_zero)))); refine GOD ?_; clear fct)
 refine R_ex (by simp (maxDischargeDepth := 12) only [opsB, Nat.reduceEqDiff, Nat.reduceBEq, Nat.reduceBNe, Int.reduceBEq, Int.reduceBNe, Int.reduceLT, Int.reduceLE, Int.reduceEq, AV.one, AV.cells, CA.ev, abin, aint, aun, isShift, readVar, readCell, readCells, writeCells, fillA, reduceIte, Nat.reduceAdd, Nat.reduceSub, Nat.reduceLT, Nat.reduceLeDiff, resAll, resOne, AV.under, AV.unders, cut]; (first | done | with_reducible rfl)) (pieces_spec h.n (ho _ (by simp)) x0 [32] (by omega) (by simp) (by simp) (h := h1) hn1) fun v2 h2 hh => ?_
 obtain ⟨⟨wb, wcap, rfl, w1, w2, w3⟩, kp⟩ := hh
 refine A_tm ?_
 obtain ⟨hW1, hW2⟩ := pcs_len x0 [32]
 have g2 : Grown h0 h2 := Ef.Grown.kp g1 kp
 have cH := head6_spec (orc := orc) (fun f hf => ho f (by revert hf; simp only [List.mem_cons, List.mem_nil_iff, or_false]; omega)) hT (pcs x0 [32]) wb wcap (by omega) (fun x hx => by have := hW2 x hx; omega) g2 w1 w3
 rw [← hc] at cH
 have kn2 := kp.n
 have res2 : h2.get h.n = some (.cells (zeroC.cells nilV) false) := by rw [kp.get h.n hn1]; exact res1
 have old2 : ∀ b, b < h.n → h2.get b = h.get b := fun b hb => by rw [kp.get b (by omega)]; exact old1 b hb
 have lo2 : h.n ≤ h2.low := kp.low (by omega) lo1
 have row2 : h2.get b = some (.cells (L.map AV.str) false) := by rw [kp.get b p3]; exact p1
 clear kp w1 w2 hW1 hW2 g1 res1 old1 lo1 p1
 generalize (pcs x0 [32]).length = wn at *
 have S0 : PS h h0 h.n h2.n c nilV [] ((h2.push (.cells (zeroC.cells nilV) false)).set h2.n (.cells (c.cells nilV) false)) :=
  ⟨(g2.push _).set (by have := g2.1; omega) _, hg.1, by simp; omega, by rw [Hp.get_set_ne _ _ _ _ (by omega), Hp.get_push_ne _ _ _ (by omega)]; exact res2, Hp.get_set_self _ _ _, by simp; omega, .inl ⟨rfl, rfl⟩, fun b hb => by rw [Hp.get_set_ne _ _ _ _ (by omega), Hp.get_push_ne _ _ _ (by omega)]; exact old2 b hb⟩
 (have fct := Fj @cH (Fj @cells_len (Fj @cells_take (Fj @cells_one @ov_9))); refine GOD ?_; clear fct)
 refine CodeK_loop (RiI f h h0 h.n h2.n b L cap c s) (L.length - 1) ?_ ?_
 · exact ⟨rfl, rfl, rfl, rfl, rfl, by rw [Hp.get_set_ne _ _ _ _ (by omega), Hp.get_push_ne _ _ _ (by omega)]; exact row2, by omega, 0, nilV, rfl, by omega, rfl, by simp, S0⟩
 clear S0 cH g2 res2 old2 lo2 row2 a0 m0 l1 w3
 have hqn : h.n < h2.n := by omega
 generalize h2.n = q at *
 intro n tm H I
 obtain ⟨i, v, hn, hi, e6, hgood, S⟩ := I.st
 have el := I.len
 have e0 := I.t0
 have e2 := I.t2
 have e4 := I.t4
 have e5 := I.t5
 have rowL := I.row
 have hbq := I.bq
 have k1 := S.card
 have hSn := S.n
 have hlow := S.low
 clear I
 obtain ⟨a, pcap, rfl⟩ : ∃ a cap, v = .slice a (((L.drop 1).take i).map fun x => (f x).1).length cap := by
  rcases S.row with ⟨e, rfl⟩ | ⟨b, _, _, rfl, _⟩
  · rw [e]; exact ⟨none, .exact 0, rfl⟩
  · exact ⟨_, _, rfl⟩
 have hpl : (((L.drop 1).take i).map fun x => (f x).1).length ≤ 600 := by simp; omega
 by_cases hlt : i + 1 < L.length
 case pos =>
  have l1 : decide (((i + 1 : Nat) : Int) < (L.length : Int)) = true := by rw [decide_eq_true_eq]; omega
  obtain ⟨x, hx⟩ : ∃ x, L[i + 1]? = some x := ⟨_, List.getElem?_eq_getElem hlt⟩
  have hm : (L.map AV.str)[i + 1]? = some (.str x) := by rw [List.getElem?_map, hx]; rfl
  have a1 := fun (hh : AH) => iaddrV_nat (h := hh) (esz := 1) (b := b) (o := 0) (c := cap) (k := .i64) hlt
  have wI : IntKind.wrap .i64 (((i + 1 : Nat) : Int) + 1) = ((i + 1 + 1 : Nat) : Int) := by rw [Ef.wrap_small (by omega) (by omega)]; omega
  have hEx := hE x H S.gr
  have hxd : (L.drop 1)[i]? = some x := by rw [List.getElem?_drop, Nat.add_comm]; exact hx
  have htk : (L.drop 1).take (i + 1) = (L.drop 1).take i ++ [x] := by rw [List.take_add_one, hxd]; rfl
  have hmem : x ∈ L.drop 1 := List.mem_of_getElem? hxd
  have z1 : ∀ a b c d e g i j : AV, Fs.over [a, b, c, d, e, g, i, j] 0 (f x).1.cells = (f x).1.cells := fun _ _ _ _ _ _ _ _ => rfl
  have z2 : (f x).1.cells.length = 8 := rfl
  have z3 : (f x).1.cells.all AV.one = true := rfl
  have z4 : (f x).1.cells.take 8 = (f x).1.cells := rfl
  have y2 : (q = H.n) = False := by simp; omega
  have y3 : (h.n = H.n) = False := by simp; omega
  cases hq : ((f x).2 != 0) with
  | true =>
    have hbad : ¬ ((decide (∀ x ∈ L.drop 1, (f x).2 = 0), (L.drop 1).map fun x => (f x).1).1 = true ∧ chkC c (decide (∀ x ∈ L.drop 1, (f x).2 = 0), (L.drop 1).map fun x => (f x).1).2 = 0 ∧ txtC c (decide (∀ x ∈ L.drop 1, (f x).2 = 0), (L.drop 1).map fun x => (f x).1).2 = s) := by
     rintro ⟨h9, _⟩
     have := of_decide_eq_true h9 x hmem
     rw [this] at hq; cases hq
    have S2 : PS h h0 h.n q c (.slice a (((L.drop 1).take i).map fun x => (f x).1).length pcap) (((L.drop 1).take i).map fun x => (f x).1) ((H.push (.cells [.int .u8 0, .int .u8 0, .int .u8 0, .int .i64 0, .int .u8 0, .int .u8 0, .int .u8 0, .str []] false)).set H.n (.cells (f x).1.cells false)) :=
     S.grow (by simp) (fun b hb => by rw [Hp.get_set_ne _ _ _ _ (by omega), Hp.get_push_ne _ _ _ (by omega)]) (by simp; omega)
    have rs := S.res
    generalize hfx : (f x).1 = p at *
    (have fct := Fj @el (Fj @e0 (Fj @e2 (Fj @e4 (Fj @e5 (Fj @e6 (Fj @l1 (Fj @a1 (Fj @rowL (Fj @hm (Fj @hEx (Fj @z1 (Fj @z2 (Fj @z3 (Fj @z4 (Fj @hq (Fj @rs (Fj @y3 (Fj @cells_len (Fj @cells_one (Fj @ov_9 @Nat.mul_one)))))))))))))))))))); refine GOD ?_; clear fct)
    exact ⟨.inr rfl, bad_end S2 hbad (by simp only [fsTm, Nat.reduceBEq, Nat.reduceLT, e2]) (by simp only [fsTm, Nat.reduceBEq, Nat.reduceLT, el])⟩
  | false =>
    have hz : (f x).2 = 0 := by simpa using hq
    have hgood' : ∀ y ∈ (L.drop 1).take (i + 1), (f y).2 = 0 := fun y hy => by
     rw [htk] at hy
     rcases List.mem_append.1 hy with hy | hy
     · exact hgood y hy
     · rw [List.mem_singleton.1 hy]; exact hz
    generalize hps : (((L.drop 1).take i).map fun x => (f x).1) = ps at *
    have hps' : (((L.drop 1).take (i + 1)).map fun x => (f x).1) = ps ++ [(f x).1] := by rw [htk, List.map_append, hps]; rfl
    generalize hfx : (f x).1 = p at *
    (have fct := Fj @el (Fj @e0 (Fj @e2 (Fj @e4 (Fj @e5 (Fj @e6 (Fj @l1 (Fj @a1 (Fj @rowL (Fj @hm (Fj @hEx (Fj @z1 (Fj @z2 (Fj @z3 (Fj @z4 (Fj @hq (Fj @k1 (Fj @y2 (Fj @cells_len (Fj @cells_eight (Fj @op_litS (Fj fsReps @Nat.mul_one))))))))))))))))))))); refine GOD ?_; clear fct)
    refine R_heap (fun X => PS h h0 h.n q c (.slice a ps.length pcap) ps X ∧ X.n = H.n + 2 ∧ X.get (H.n + 1) = some (.cells p.cells false) ∧ X.get b = some (.cells (L.map AV.str) false)) ⟨S.grow (by simp; omega) (fun b hb => by rw [Hp.get_push_ne _ _ _ (by simp; omega), Hp.get_set_ne _ _ _ _ (by omega), Hp.get_push_ne _ _ _ (by omega)]) (by simp; omega), by simp, Hp.get_push_self _ _, by rw [Hp.get_push_ne _ _ _ (by simp; omega), Hp.get_set_ne _ _ _ _ (by omega), Hp.get_push_ne _ _ _ (by omega)]; exact rowL⟩ (fun X hX => ?_)
    obtain ⟨SX, hXn, hXp, hXb⟩ := hX
    refine R_ex (by simp (maxDischargeDepth := 12) only [opsB, Nat.reduceEqDiff, Nat.reduceBEq, Nat.reduceBNe, Int.reduceBEq, Int.reduceBNe, Int.reduceLT, Int.reduceLE, Int.reduceEq, AV.one, AV.cells, CA.ev, abin, aint, aun, isShift, readVar, readCell, readCells, writeCells, fillA, reduceIte, Nat.reduceAdd, Nat.reduceSub, Nat.reduceLT, Nat.reduceLeDiff, resAll, resOne, AV.under, AV.unders, cut, op_append, el, e0, e2, e5, fsTm, Nat.reduceBEq, Nat.reduceLT]; (first | done | with_reducible rfl)) (app_part (p := p) SX.row SX.n.2 (by omega) hXp) fun v' H' hh => ?_
    obtain ⟨row', hn', hf', lo'⟩ := hh
    have k3 : H'.get q = some (.cells (c.cells (.slice a ps.length pcap)) false) := by rw [hf' q (by omega)]; exact SX.card
    have SN := SX.next row' hn' hf' (lo' _ (by omega) SX.low)
    have rowN : (H'.set q (.cells (c.cells v') false)).get b = some (.cells (L.map AV.str) false) := by rw [Hp.get_set_ne _ _ _ _ (by omega), hf' b (by omega)]; exact hXb
    obtain ⟨a', cap', rfl⟩ : ∃ a' cap', v' = .slice a' (ps ++ [p]).length cap' := by
     rcases row' with ⟨hh, _⟩ | ⟨b, _, _, hh, _⟩
     · simp at hh
     · exact ⟨_, _, hh⟩
    refine A_tm ?_
    (have fct := Fj @el (Fj @e0 (Fj @e2 (Fj @e4 (Fj @e5 (Fj @e6 (Fj @k3 (Fj @cells_len (Fj @ov_8 @wI)))))))); refine GOD ?_; clear fct)
    exact ⟨L.length - (i + 1 + 1), by omega, by simp only [List.length_set, el], by simp only [fsTm, Nat.reduceBEq, Nat.reduceLT, e0], by simp only [fsTm, Nat.reduceBEq, Nat.reduceLT, e2], by simp only [fsTm, Nat.reduceBEq, Nat.reduceLT, e4], by simp only [fsTm, Nat.reduceBEq, Nat.reduceLT, e5], rowN, hbq, i + 1, .slice a' (ps ++ [p]).length cap', rfl, by omega, by simp only [fsTm, Nat.reduceBEq, Nat.reduceLT, el], hgood', by rw [hps']; exact SN⟩
 case neg =>
  have hiL : i + 1 = L.length := by omega
  have l1 : decide (((i + 1 : Nat) : Int) < (L.length : Int)) = false := by rw [decide_eq_false_iff_not]; omega
  have hall : (L.drop 1).take i = L.drop 1 := List.take_of_length_le (by simp; omega)
  rw [hall] at hgood S k1 hpl
  have hd : decide (∀ x ∈ L.drop 1, (f x).2 = 0) = true := decide_eq_true hgood
  have hrng : ∀ p ∈ (L.drop 1).map fun x => (f x).1, p.rng := fun p hp => by
   obtain ⟨x, hx, rfl⟩ := List.mem_map.1 hp
   exact hFr x (hgood x hx)
  rw [hd]
  generalize hps : ((L.drop 1).map fun x => (f x).1) = ps at *
  have hPr := hP c _ ps H hcr hrng (S.row.parts (by omega)) S.gr
  have z5 : (c.cells (.slice a ps.length pcap)).all AV.one = true := rfl
  have rs := S.res
  have y4 : (q = h.n) = False := by simp; omega
  rw [hall, hps] at *
  cases hq1 : (chkC c ps != 0) with
  | true =>
    have hbad : ¬ ((true, ps).1 = true ∧ chkC c (true, ps).2 = 0 ∧ txtC c (true, ps).2 = s) := by rintro ⟨_, h, _⟩; simp [h] at hq1
    (have fct := Fj @el (Fj @e0 (Fj @e2 (Fj @e4 (Fj @e5 (Fj @e6 (Fj @l1 (Fj @k1 (Fj @rs (Fj @hPr (Fj @hq1 (Fj @cells_len (Fj @cells_take (Fj @cells_one @ov_9))))))))))))); refine GOD ?_; clear fct)
    exact ⟨.inr rfl, bad_end S hbad (by simp only [fsTm, Nat.reduceBEq, Nat.reduceLT, e2]) (by simp only [fsTm, Nat.reduceBEq, Nat.reduceLT, el])⟩
  | false =>
    have hz : chkC c ps = 0 := by simpa using hq1
    cases hx : decide (txtC c ps = s) with
    | true =>
      (have fct := Fj @el (Fj @e0 (Fj @e2 (Fj @e4 (Fj @e5 (Fj @e6 (Fj @l1 (Fj @k1 (Fj @rs (Fj @hPr (Fj @hq1 (Fj @hx (Fj fsAstr (Fj @cells_len (Fj @cells_take (Fj @cells_one (Fj @z5 (Fj @ov_9 @y4))))))))))))))))); refine GOD ?_; clear fct)
      exact ⟨.inr rfl, good_end (fin := (true, ps)) S (by simp only; omega) ⟨rfl, hz, of_decide_eq_true hx⟩ (by simp only [fsTm, Nat.reduceBEq, Nat.reduceLT, e2]) (by simp only [fsTm, Nat.reduceBEq, Nat.reduceLT, el])⟩
    | false =>
      have hbad : ¬ ((true, ps).1 = true ∧ chkC c (true, ps).2 = 0 ∧ txtC c (true, ps).2 = s) := by rintro ⟨_, _, h⟩; exact of_decide_eq_false hx h
      (have fct := Fj @el (Fj @e0 (Fj @e2 (Fj @e4 (Fj @e5 (Fj @e6 (Fj @l1 (Fj @k1 (Fj @rs (Fj @hPr (Fj @hq1 (Fj @hx (Fj fsAstr (Fj @cells_len (Fj @cells_take (Fj @cells_one @ov_9))))))))))))))); refine GOD ?_; clear fct)
      exact ⟨.inr rfl, bad_end S hbad (by simp only [fsTm, Nat.reduceBEq, Nat.reduceLT, e2]) (by simp only [fsTm, Nat.reduceBEq, Nat.reduceLT, el])⟩
end Go.Proofs.Cards
