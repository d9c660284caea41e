/- The reference's parser: its parts. -/
import Derived.Test.YtjmhjipacmlojaaGreatDoorFz05
import Derived.Test.YtjmhjipacmlojaaGreatDoorZcEfPlain
import Derived.Test.YtjmhjipacmlojaaGreatDoorZcEfRef
namespace Go.Proofs.Ef
set_option maxRecDepth 100000
set_option maxHeartbeats 32000000
open Go Go.Fs
set_option linter.unusedSimpArgs false
set_option linter.unusedVariables false
variable {orc : Orc}
def cf102 : CF := ⟨20, [(.tmp 4)], (.seq (.region [Zo 4 (.mv (.c (.int .i64 0)))]) (.seq (.seq (.region [Zo 5 (.mv (.c (.int .i64 0)))]) (.block 0 (.loop (.seq (.seq (.region [Zm 6 5, Zm 7 0, Zo 8 (.lenV (.t 7)), Zb 9 .lss (.t 6) (.t 8)]) (.cond (.t 9) .skip (.exit 0))) (.seq (.block 1 (.seq (.region [Zm 12 0, Zm 13 5, Zo 14 (.iaddrS 1 (.t 12) (.t 13)), Zl 15 14, Zm 16 1, Zb 17 .eql (.t 15) (.t 16)]) (.cond (.t 17) (.seq (.region [Zm 18 5, Zb 19 .add (.t 18) (.c (.int .i64 1)), Zm 4 19]) .ret) .skip))) (.region [Zm 10 5, Zb 11 .add (.t 10) (.c (.int .i64 1)), Zm 5 11])))))) (.seq (.region [Zo 4 (.mv (.c (.int .i64 0)))]) .ret)))⟩
def cf103 : CF := ⟨46, [(.tmp 2)], (.seq (.region [Zo 2 (.mv (.c (.int .i64 0)))]) (.seq (.region [Zo 3 (.mv (.c (.int .i64 0)))]) (.seq (.region [Zm 6 0, Zo 7 (.lenS (.t 6)), Zb 8 .gtr (.t 7) (.c (.int .i64 0)), Zm 9 8, Zg 10 (.mv (.t 0)) 9 true, Zg 11 (.idxS (.t 10) (.c (.int .i64 0))) 9 true, Zg 12 (.bin .eql .other (.t 11) (.c (.int .u8 45))) 9 true, Zo 13 (.pick (.t 9) (.t 12) (.c (.bool false))), Zm 4 13]) (.seq (.seq (.region [Zo 5 (.mv (.c (.int .i64 0)))]) (.block 0 (.loop (.seq (.seq (.region [Zm 14 5, Zm 15 0, Zo 16 (.lenS (.t 15)), Zb 17 .lss (.t 14) (.t 16), Zm 18 17, Zg 19 (.mv (.t 5)) 18 true, Zg 20 (.bin .lss .other (.t 19) (.c (.int .i64 3))) 18 true, Zo 21 (.pick (.t 18) (.t 20) (.c (.bool false)))]) (.cond (.t 21) .skip (.exit 0))) (.seq (.block 1 (.seq (.region [Zm 24 0, Zm 25 5, Zo 26 (.idxS (.t 24) (.t 25)), Zb 27 .geq (.t 26) (.c (.int .u8 48)), Zm 28 27, Zg 29 (.mv (.t 0)) 28 true, Zg 30 (.mv (.t 5)) 28 true, Zg 31 (.idxS (.t 29) (.t 30)) 28 true, Zg 32 (.bin .leq .other (.t 31) (.c (.int .u8 57))) 28 true, Zo 33 (.pick (.t 28) (.t 32) (.c (.bool false)))]) (.cond (.t 33) (.region [Zm 34 3, Zb 35 .mul (.c (.int .i64 10)) (.t 34), Zm 36 0, Zm 37 5, Zo 38 (.idxS (.t 36) (.t 37)), Zb 39 .sub (.t 38) (.c (.int .u8 48)), Zo 40 (.toInt .i64 (.t 39)), Zb 41 .add (.t 35) (.t 40), Zm 3 41]) .skip))) (.region [Zm 22 5, Zb 23 .add (.t 22) (.c (.int .i64 1)), Zm 5 23])))))) (.seq (.seq (.region [Zm 42 4]) (.cond (.t 42) (.seq (.region [Zm 43 3, Zo 44 (.un .neg (.t 43)), Zm 2 44]) .ret) .skip)) (.seq (.region [Zm 45 3, Zm 2 45]) .ret))))))⟩
def cf104 : CF := ⟨14, [(.tmp 2), (.tmp 3)], (.seq (.region [Zo 2 (.mv (.c (.int .u8 0))), Zo 3 (.mv (.c (.bool false)))]) (.seq (.seq (.region [Zo 4 (.mv (.c (.int .u8 1)))]) (.block 0 (.loop (.seq (.seq (.region [Zm 5 4, Zb 6 .leq (.t 5) (.c (.int .u8 6))]) (.cond (.t 6) .skip (.exit 0))) (.seq (.block 1 (.seq (.region [Zm 9 4, Zo 10 (.call (.f 38) [(.t 9)]), Zm 11 0, Zb 12 .eql (.t 10) (.t 11)]) (.cond (.t 12) (.seq (.region [Zm 13 4, Zm 2 13, Zo 3 (.mv (.c (.bool true)))]) .ret) .skip))) (.region [Zm 7 4, Zb 8 .add (.t 7) (.c (.int .u8 1)), Zm 4 8])))))) (.seq (.region [Zo 2 (.mv (.c (.int .u8 0))), Zo 3 (.mv (.c (.bool false)))]) .ret)))⟩
def cf105 : CF := ⟨25, [(.tmp 2), (.tmp 3)], (.seq (.region [Zo 2 (.mv (.c (.int .u8 0))), Zo 3 (.mv (.c (.bool false)))]) (.seq (.region [Zo 6 (.call (.f 120) []), Zm 4 6]) (.seq (.seq (.region [Zo 5 (.mv (.c (.int .i64 0)))]) (.block 0 (.loop (.seq (.seq (.region [Zm 7 5, Zm 8 4, Zo 9 (.lenV (.t 8)), Zb 10 .lss (.t 7) (.t 9)]) (.cond (.t 10) .skip (.exit 0))) (.seq (.block 1 (.seq (.region [Zm 13 4, Zm 14 5, Zo 15 (.iaddrS 4 (.t 13) (.t 14)), Zf 16 1 15, Zl 17 16, Zm 18 0, Zb 19 .eql (.t 17) (.t 18)]) (.cond (.t 19) (.seq (.region [Zm 20 4, Zm 21 5, Zo 22 (.iaddrS 4 (.t 20) (.t 21)), Zf 23 0 22, Zl 24 23, Zm 2 24, Zo 3 (.mv (.c (.bool true)))]) .ret) .skip))) (.region [Zm 11 5, Zb 12 .add (.t 11) (.c (.int .i64 1)), Zm 5 12])))))) (.seq (.region [Zo 2 (.mv (.c (.int .u8 0))), Zo 3 (.mv (.c (.bool false)))]) .ret))))⟩
def cf120 : CF := ⟨10, [(.tmp 0)], (.seq (.region [Zo 0 (.mv (.c (.slice none 0 (.exact 0))))]) (.seq (.region [Zo 1 (.build [(.int .u8 0), (.str []), (.int .u8 0), (.str [])] [(0, (1, (.c (.int .u8 1)))), (1, (1, (.c (.str [102, 97, 115, 116])))), (2, (1, (.c (.int .u8 1)))), (3, (1, (.c (.str [109, 97, 121, 32, 115, 116, 114, 105, 107, 101, 32, 111, 110, 32, 116, 104, 101, 32, 116, 117, 114, 110, 32, 111, 110, 32, 119, 104, 105, 99, 104, 32, 105, 116, 32, 99, 97, 109, 101]))))]), Zo 2 (.build [(.int .u8 0), (.str []), (.int .u8 0), (.str [])] [(0, (1, (.c (.int .u8 2)))), (1, (1, (.c (.str [103, 117, 97, 114, 100])))), (2, (1, (.c (.int .u8 2)))), (3, (1, (.c (.str [105, 115, 32, 115, 116, 114, 117, 99, 107, 32, 97, 104, 101, 97, 100, 32, 111, 102, 32, 97, 108, 108, 32, 116, 104, 97, 116, 32, 105, 115, 32, 110, 111, 32, 103, 117, 97, 114, 100]))))]), Zo 3 (.build [(.int .u8 0), (.str []), (.int .u8 0), (.str [])] [(0, (1, (.c (.int .u8 3)))), (1, (1, (.c (.str [118, 101, 110, 111, 109])))), (2, (1, (.c (.int .u8 3)))), (3, (1, (.c (.str [119, 104, 97, 116, 101, 118, 101, 114, 32, 105, 116, 32, 104, 97, 114, 109, 115, 32, 98, 114, 101, 97, 107, 115]))))]), Zo 4 (.build [(.int .u8 0), (.str []), (.int .u8 0), (.str [])] [(0, (1, (.c (.int .u8 4)))), (1, (1, (.c (.str [108, 111, 110, 101])))), (2, (1, (.c (.int .u8 4)))), (3, (1, (.c (.str [99, 97, 110, 110, 111, 116, 32, 98, 101, 32, 109, 101, 97, 110, 116, 32, 98, 121, 32, 116, 104, 101, 32, 102, 111, 101]))))]), Zo 5 (.build [(.int .u8 0), (.str []), (.int .u8 0), (.str [])] [(0, (1, (.c (.int .u8 5)))), (1, (1, (.c (.str [100, 114, 97, 105, 110])))), (2, (1, (.c (.int .u8 4)))), (3, (1, (.c (.str [119, 104, 97, 116, 32, 105, 116, 32, 104, 97, 114, 109, 115, 32, 109, 101, 110, 100, 115, 32, 105, 116, 115, 32, 104, 111, 108, 100, 101, 114]))))]), Zo 6 (.build [(.int .u8 0), (.str []), (.int .u8 0), (.str [])] [(0, (1, (.c (.int .u8 6)))), (1, (1, (.c (.str [109, 117, 116, 101])))), (2, (1, (.c (.int .u8 5)))), (3, (1, (.c (.str [105, 116, 115, 32, 99, 97, 114, 100, 39, 115, 32, 112, 97, 114, 116, 115, 32, 99, 111, 117, 110, 116, 32, 102, 111, 114, 32, 110, 111, 116, 104, 105, 110, 103]))))]), Zo 7 (.build [(.int .u8 0), (.str []), (.int .u8 0), (.str [])] [(0, (1, (.c (.int .u8 7)))), (1, (1, (.c (.str [102, 105, 120, 101, 100])))), (2, (1, (.c (.int .u8 6)))), (3, (1, (.c (.str [99, 97, 110, 110, 111, 116, 32, 115, 116, 114, 105, 107, 101]))))]), Zo 8 (.build [(.int .u8 0), (.str []), (.int .u8 0), (.str [])] [(0, (1, (.c (.int .u8 8)))), (1, (1, (.c (.str [115, 119, 105, 102, 116])))), (2, (1, (.c (.int .u8 1)))), (3, (1, (.c (.str [115, 116, 114, 105, 107, 101, 115, 32, 97, 32, 115, 101, 99, 111, 110, 100, 32, 116, 105, 109, 101, 32, 101, 97, 99, 104, 32, 116, 117, 114, 110]))))]), Zo 9 (.litS 4 8 [(.int .u8 0), (.str []), (.int .u8 0), (.str [])] [(0, (4, (.t 1))), (4, (4, (.t 2))), (8, (4, (.t 3))), (12, (4, (.t 4))), (16, (4, (.t 5))), (20, (4, (.t 6))), (24, (4, (.t 7))), (28, (4, (.t 8)))]), Zm 0 9]) .ret))⟩
def cf59 : CF := ⟨32, [(.tmp 2)], (.seq (.region [Zo 2 (.mv (.c (.slice none 0 (.exact 0))))]) (.seq (.region [Zo 3 (.mv (.c (.slice none 0 (.exact 0))))]) (.seq (.region [Zo 4 (.mv (.c (.int .i64 0)))]) (.seq (.seq (.region [Zo 5 (.mv (.c (.int .i64 0)))]) (.block 0 (.loop (.seq (.seq (.region [Zm 6 5, Zm 7 0, Zo 8 (.lenS (.t 7)), Zb 9 .leq (.t 6) (.t 8)]) (.cond (.t 9) .skip (.exit 0))) (.seq (.block 1 (.seq (.region [Zm 12 5, Zm 13 0, Zo 14 (.lenS (.t 13)), Zb 15 .eql (.t 12) (.t 14), Zm 16 15, Zg 17 (.mv (.t 0)) 16 false, Zg 18 (.mv (.t 5)) 16 false, Zg 19 (.idxS (.t 17) (.t 18)) 16 false, Zg 20 (.bin .eql .other (.t 19) (.c (.int .u8 32))) 16 false, Zo 21 (.pick (.t 16) (.c (.bool true)) (.t 20))]) (.cond (.t 21) (.seq (.region [Zm 22 3, Zm 23 0, Zm 24 4, Zm 25 5, Zo 26 (.slcS (.t 23) (some (.t 24)) (some (.t 25))), Zo 27 (.litS 1 1 [(.str [])] [(0, (1, (.t 26)))]), Zo 28 (.append 1 16 (.t 22) (.t 27)), Zm 3 28]) (.region [Zm 29 5, Zb 30 .add (.t 29) (.c (.int .i64 1)), Zm 4 30])) .skip))) (.region [Zm 10 5, Zb 11 .add (.t 10) (.c (.int .i64 1)), Zm 5 11])))))) (.seq (.region [Zm 31 3, Zm 2 31]) .ret)))))⟩
theorem tbl102 : tbl Tryz.prog 102 = some cf102 := by kernel_rfl
theorem tbl103 : tbl Tryz.prog 103 = some cf103 := by kernel_rfl
theorem tbl104 : tbl Tryz.prog 104 = some cf104 := by kernel_rfl
theorem tbl105 : tbl Tryz.prog 105 = some cf105 := by kernel_rfl
theorem tbl120 : tbl Tryz.prog 120 = some cf120 := by kernel_rfl
theorem tbl59 : tbl Tryz.prog 59 = some cf59 := by kernel_rfl
structure PlI (L : List (List UInt8)) (x : List UInt8) (v : AV) (h0 : AH) (n : Nat) (tm : List AV) (h : AH) : Prop where
 len : tm.length = 20
 t0 : tm.getD 0 AV.undef = v
 t1 : tm.getD 1 AV.undef = .str x
 hp : h = h0.withLow h0.n
 st : ∃ i : Nat, n = L.length - i ∧ i ≤ L.length ∧ tm.getD 5 AV.undef = .int .i64 (i : Int) ∧ ∀ (j : Nat) y, j < i → L[j]? = some y → x ≠ y
theorem place_spec (ho : orc 102 = none) (L : List (List UInt8)) (x : List UInt8) (b : Nat) (cap : Cap) (ro : Bool) (hl : L.length ≤ 1000) {h : AH} (hb : h.get b = some (.cells (L.map AV.str) ro)) :
    acall orc T 102 [.slice (some (b, 0)) L.length cap, .str x] h = some (.int .i64 (posI L x + 1), h) := by
 refine acall_sym ho tbl102 ?_
 refine GD ?_
 (have fct := @op_mv; refine GO ?_; clear fct)
 refine CodeK_loop (PlI L x (.slice (some (b, 0)) L.length cap) h) L.length ?_ ?_
 · exact ⟨rfl, rfl, rfl, rfl, 0, rfl, Nat.zero_le _, rfl, fun j y hj => by omega⟩
 intro n tm h' I
 obtain ⟨i, hn, hi, e5, ha⟩ := I.st
 have el := I.len
 have e0 := I.t0
 have e1 := I.t1
 obtain rfl := I.hp
 clear I
 by_cases hlt : i < L.length
 case neg =>
  obtain rfl : i = L.length := by omega
  have l1 : decide ((L.length : Int) < (L.length : Int)) = false := by rw [decide_eq_false_iff_not]; omega
  rw [find_none (fun j y hj => ha j y (List.getElem?_eq_some_iff.1 hj).1 hj)]
  clear ha
  (have fct := Fj @el (Fj @e0 (Fj @e1 (Fj @e5 @l1))); refine GO ?_; clear fct)
  (have fct := @el; refine A_end ?_; clear fct; try exact trivial)
  rfl
 case pos =>
  have l1 : decide ((i : Int) < (L.length : Int)) = true := by rw [decide_eq_true_eq]; omega
  have w1 : IntKind.wrap .i64 ((i : Int) + 1) = ((i + 1 : Nat) : Int) := by rw [wrap_i64 (by omega) (by omega)]; omega
  obtain ⟨y, hy⟩ : ∃ y, L[i]? = some y := ⟨_, List.getElem?_eq_getElem hlt⟩
  have hm : (L.map AV.str)[i]? = some (.str y) := by rw [List.getElem?_map, hy]; rfl
  have a1 := fun (hh : AH) => iaddrV_nat (h := hh) (esz := 1) (b := b) (o := 0) (c := cap) (k := .i64) hlt
  cases hq : decide (y = x) with
  | true =>
    have hxy : y = x := of_decide_eq_true hq
    have wp : posI L x + 1 = ((i + 1 : Nat) : Int) := by rw [find_some (hxy ▸ hy) ha]; omega
    rw [wp]
    clear ha hxy hy wp
    (have fct := Fj @el (Fj @e0 (Fj @e1 (Fj @e5 (Fj @l1 (Fj @a1 (Fj @hb (Fj @hm (Fj @hq (Fj fsAstr (Fj @w1 @Nat.mul_one)))))))))); refine GO ?_; clear fct)
    (have fct := @el; refine A_end ?_; clear fct; try exact trivial)
  | false =>
    have hxy : y ≠ x := of_decide_eq_false hq
    (have fct := Fj @el (Fj @e0 (Fj @e1 (Fj @e5 (Fj @l1 (Fj @a1 (Fj @hb (Fj @hm (Fj @hq (Fj fsAstr (Fj @w1 @Nat.mul_one)))))))))); refine GO ?_; clear fct)
    refine ⟨L.length - (i + 1), by omega, by simp only [List.length_set, el], by simp only [fsTm, Nat.reduceBEq, Nat.reduceLT, el, e0], by simp only [fsTm, Nat.reduceBEq, Nat.reduceLT, el, e1], rfl, i + 1, rfl, by omega, by simp only [fsTm, Nat.reduceBEq, Nat.reduceLT, el], fun j z hj hz => ?_⟩
    rcases Nat.lt_succ_iff_lt_or_eq.1 hj with hj | rfl
    · exact ha j z hj hz
    · rw [hy] at hz
      cases hz
      exact fun e => hxy e.symm
def digB (b : UInt8) : Bool := decide ((48 : Int) ≤ (b.toNat : Int)) && decide ((b.toNat : Int) ≤ 57)
def stepN (n : Int) (b : UInt8) : Int := if digB b = true then 10 * n + ((b.toNat : Int) - 48) else n
def magF (w : List UInt8) : Int := (w.take 3).foldl stepN 0
def numF (w : List UInt8) : Int := if (decide (0 < (w.length : Int)) && ((w.headD 0).toNat : Int) == 45) = true then -magF w else magF w
theorem stepN_bound {n m : Int} {b : UInt8} (h0 : 0 ≤ n) (h1 : n ≤ m) : 0 ≤ stepN n b ∧ stepN n b ≤ 10 * m + 9 := by
 unfold stepN
 split
 · rename_i hd
   simp only [digB, Bool.and_eq_true, decide_eq_true_eq] at hd
   omega
 · omega
theorem fold_bound : ∀ (l : List UInt8) (n m : Int), 0 ≤ n → n ≤ m → l.length ≤ 3 → 0 ≤ m → 0 ≤ l.foldl stepN n ∧ l.foldl stepN n ≤ (if l.length = 0 then m else if l.length = 1 then 10 * m + 9 else if l.length = 2 then 100 * m + 99 else 1000 * m + 999)
 | [], n, m, h0, h1, _, _ => by simp; omega
 | [a], n, m, h0, h1, _, _ => by have := stepN_bound (b := a) h0 h1; simpa using this
 | [a, b], n, m, h0, h1, _, hm => by
   have := stepN_bound (b := a) h0 h1
   have := stepN_bound (b := b) this.1 this.2
   simp only [List.foldl_cons, List.foldl_nil, List.length_cons, List.length_nil]
   simp; omega
 | [a, b, c], n, m, h0, h1, _, hm => by
   have := stepN_bound (b := a) h0 h1
   have := stepN_bound (b := b) this.1 this.2
   have := stepN_bound (b := c) this.1 this.2
   simp only [List.foldl_cons, List.foldl_nil, List.length_cons, List.length_nil]
   simp; omega
 | _ :: _ :: _ :: _ :: _, _, _, _, _, h, _ => by simp at h
theorem fold_small (l : List UInt8) (h : l.length ≤ 3) : 0 ≤ l.foldl stepN 0 ∧ l.foldl stepN 0 ≤ 999 := by
 have := fold_bound l 0 0 (by omega) (by omega) h (by omega)
 refine ⟨this.1, Int.le_trans this.2 ?_⟩
 repeat' split
 all_goals omega
theorem wrap_dig {b : UInt8} (h : digB b = true) : IntKind.wrap .u8 ((b.toNat : Int) - 48) = (b.toNat : Int) - 48 := by
 simp only [digB, Bool.and_eq_true, decide_eq_true_eq] at h
 have e3 : IntKind.bits .u8 = 8 := rfl
 have e4 : IntKind.signed .u8 = false := rfl
 have hp : (2 : Int) ^ 8 = 256 := by decide
 unfold IntKind.wrap
 simp only [e3, e4, Bool.false_and, hp, Bool.false_eq_true, if_false]
 omega
structure NuI (w : List UInt8) (neg : Bool) (h0 : AH) (n : Nat) (tm : List AV) (h : AH) : Prop where
 len : tm.length = 46
 t0 : tm.getD 0 AV.undef = .str w
 t4 : tm.getD 4 AV.undef = .bool neg
 hp : h = h0.withLow h0.n
 st : ∃ i : Nat, n = min 3 w.length - i ∧ i ≤ min 3 w.length ∧ tm.getD 5 AV.undef = .int .i64 (i : Int) ∧ tm.getD 3 AV.undef = .int .i64 ((w.take i).foldl stepN 0)
theorem number_spec (ho : orc 103 = none) (w : List UInt8) (h : AH) : acall orc T 103 [.str w] h = some (.int .i64 (numF w), h) := by
 refine acall_sym ho tbl103 ?_
 unfold numF
 cases w with
 | nil =>
   have l0 : decide ((0 : Int) < ((([] : List UInt8).length : Nat) : Int)) = false := rfl
   rw [l0, Bool.false_and]
   refine GD ?_
   have l1 : decide ((0 : Int) < ((0 : Nat) : Int)) = false := rfl
   (have fct := @l1; refine GO ?_; clear fct)
   refine K_unroll ?_
   (have fct := @l1; refine GO ?_; clear fct)
   (have fct := trivial; refine A_end ?_; clear fct; try exact trivial)
   rfl
 | cons a r =>
   have l0 : decide ((0 : Int) < (((a :: r).length : Nat) : Int)) = true := by rw [decide_eq_true_eq]; simp only [List.length_cons]; omega
   have hd : ((a :: r).headD 0) = a := rfl
   rw [l0, hd, Bool.true_and]
   generalize hG : ((a.toNat : Int) == 45) = G
   generalize hW : a :: r = W at *
   have x0 := fun (hh : AH) => hW ▸ idxSV_zero a r .i64 hh
   refine GD ?_
   (have fct := Fj @l0 (Fj @op_idxS (Fj @x0 @hG)); refine GO ?_; clear fct)
   refine CodeK_loop (NuI W G h) (min 3 W.length) ?_ ?_
   · exact ⟨rfl, rfl, rfl, rfl, 0, rfl, Nat.zero_le _, rfl, rfl⟩
   intro n tm h' I
   obtain ⟨i, hn, hi, e5, e3⟩ := I.st
   have el := I.len
   have e0 := I.t0
   have e4 := I.t4
   obtain rfl := I.hp
   clear I
   have hb3 := fold_small (W.take i) (by rw [List.length_take]; omega)
   by_cases hlt : i < min 3 W.length
   case neg =>
    have hi : i = min 3 W.length := by omega
    have ef : (W.take i).foldl stepN 0 = magF W := by
     unfold magF
     rw [hi]
     by_cases h3 : 3 ≤ W.length
     · rw [Nat.min_eq_left h3]
     · rw [Nat.min_eq_right (by omega), List.take_of_length_le (Nat.le_refl _), List.take_of_length_le (by omega)]
    rw [ef] at e3 hb3
    generalize magF W = M at *
    have w0 : IntKind.wrap .i64 (0 - M) = -M := by rw [wrap_small (by omega) (by omega)]; omega
    cases hl : decide ((i : Int) < (W.length : Int)) with
    | true =>
      have hl2 : decide ((i : Int) < 3) = false := by have := of_decide_eq_true hl; rw [decide_eq_false_iff_not]; omega
      cases hng : G with
      | true =>
        rw [hng] at e4
        (have fct := Fj @el (Fj @e0 (Fj @e3 (Fj @e4 (Fj @e5 (Fj @hl (Fj @hl2 @w0)))))); refine GO ?_; clear fct)
        (have fct := Fj @el (Fj @e3 @w0); refine A_end ?_; clear fct; try exact trivial)
      | false =>
        rw [hng] at e4
        (have fct := Fj @el (Fj @e0 (Fj @e3 (Fj @e4 (Fj @e5 (Fj @hl (Fj @hl2 @w0)))))); refine GO ?_; clear fct)
        (have fct := Fj @el @e3; refine A_end ?_; clear fct; try exact trivial)
    | false =>
      cases hng : G with
      | true =>
        rw [hng] at e4
        (have fct := Fj @el (Fj @e0 (Fj @e3 (Fj @e4 (Fj @e5 (Fj @hl @w0))))); refine GO ?_; clear fct)
        (have fct := Fj @el (Fj @e3 @w0); refine A_end ?_; clear fct; try exact trivial)
      | false =>
        rw [hng] at e4
        (have fct := Fj @el (Fj @e0 (Fj @e3 (Fj @e4 (Fj @e5 (Fj @hl @w0))))); refine GO ?_; clear fct)
        (have fct := Fj @el @e3; refine A_end ?_; clear fct; try exact trivial)
   case pos =>
    have l1 : decide ((i : Int) < (W.length : Int)) = true := by rw [decide_eq_true_eq]; omega
    have l2 : decide ((i : Int) < 3) = true := by rw [decide_eq_true_eq]; omega
    have w1 : IntKind.wrap .i64 ((i : Int) + 1) = ((i + 1 : Nat) : Int) := by rw [wrap_small (by omega) (by omega)]; omega
    obtain ⟨b, hb⟩ : ∃ b, W[i]? = some b := ⟨_, List.getElem?_eq_getElem (by omega)⟩
    have x1 := fun (hh : AH) => idxSV_nat hb .i64 hh
    have hf : (W.take (i + 1)).foldl stepN 0 = stepN ((W.take i).foldl stepN 0) b := by rw [List.take_add_one, hb]; simp
    generalize hM : (W.take i).foldl stepN 0 = M at *
    cases d1 : decide ((48 : Int) ≤ (b.toNat : Int)) with
    | false =>
      have hs : stepN M b = M := by unfold stepN digB; rw [d1]; rfl
      rw [hs] at hf
      (have fct := Fj @el (Fj @e0 (Fj @e3 (Fj @e4 (Fj @e5 (Fj @l1 (Fj @l2 (Fj @w1 (Fj @op_idxS (Fj @x1 @d1))))))))); refine GO ?_; clear fct)
      exact ⟨min 3 W.length - (i + 1), by omega, by simp only [List.length_set, el], by simp only [fsTm, Nat.reduceBEq, Nat.reduceLT, el, e0], by simp only [fsTm, Nat.reduceBEq, Nat.reduceLT, el, e4], rfl, i + 1, rfl, by omega, by simp only [fsTm, Nat.reduceBEq, Nat.reduceLT, el], by simp only [fsTm, Nat.reduceBEq, Nat.reduceLT, el, e3, hf]⟩
    | true =>
      cases d2 : decide ((b.toNat : Int) ≤ 57) with
      | false =>
        have hs : stepN M b = M := by unfold stepN digB; rw [d1, d2]; rfl
        rw [hs] at hf
        (have fct := Fj @el (Fj @e0 (Fj @e3 (Fj @e4 (Fj @e5 (Fj @l1 (Fj @l2 (Fj @w1 (Fj @op_idxS (Fj @x1 (Fj @d1 @d2)))))))))); refine GO ?_; clear fct)
        exact ⟨min 3 W.length - (i + 1), by omega, by simp only [List.length_set, el], by simp only [fsTm, Nat.reduceBEq, Nat.reduceLT, el, e0], by simp only [fsTm, Nat.reduceBEq, Nat.reduceLT, el, e4], rfl, i + 1, rfl, by omega, by simp only [fsTm, Nat.reduceBEq, Nat.reduceLT, el], by simp only [fsTm, Nat.reduceBEq, Nat.reduceLT, el, e3, hf]⟩
      | true =>
        have hd : digB b = true := by unfold digB; rw [d1, d2]; rfl
        have hs : stepN M b = 10 * M + ((b.toNat : Int) - 48) := by unfold stepN; rw [hd]; rfl
        rw [hs] at hf
        have k1 := of_decide_eq_true d1
        have k2 := of_decide_eq_true d2
        have v1 := wrap_small (n := 10 * M) (by omega) (by omega)
        have v2 := wrap_dig hd
        have v3 := wrap_small (n := (b.toNat : Int) - 48) (by omega) (by omega)
        have v4 := wrap_small (n := 10 * M + ((b.toNat : Int) - 48)) (by omega) (by omega)
        (have fct := Fj @el (Fj @e0 (Fj @e3 (Fj @e4 (Fj @e5 (Fj @l1 (Fj @l2 (Fj @w1 (Fj @op_idxS (Fj @x1 (Fj @d1 (Fj @d2 (Fj @v1 (Fj @v2 (Fj @v3 @v4)))))))))))))); refine GO ?_; clear fct)
        exact ⟨min 3 W.length - (i + 1), by omega, by simp only [List.length_set, el], by simp only [fsTm, Nat.reduceBEq, Nat.reduceLT, el, e0], by simp only [fsTm, Nat.reduceBEq, Nat.reduceLT, el, e4], rfl, i + 1, rfl, by omega, by simp only [fsTm, Nat.reduceBEq, Nat.reduceLT, el], by simp only [fsTm, Nat.reduceBEq, Nat.reduceLT, el, hf]⟩
structure RsI (x : List UInt8) (h0 : AH) (n : Nat) (tm : List AV) (h : AH) : Prop where
 len : tm.length = 14
 t0 : tm.getD 0 AV.undef = .str x
 hp : h = h0.withLow h0.n
 st : ∃ i : Nat, n = 6 - i ∧ i ≤ 6 ∧ tm.getD 4 AV.undef = .int .u8 ((i : Int) + 1) ∧ ∀ (j : Nat), j < i → sN ((j : Int) + 1) ≠ x
def suitR (x : List UInt8) : Int × Bool := match (List.range 6).find? (fun (i : Nat) => decide (sN ((i : Int) + 1) = x)) with
 | some i => ((i : Int) + 1, true)
 | none => (0, false)
theorem suitR_none {x : List UInt8} (h : ∀ j : Nat, j < 6 → sN ((j : Int) + 1) ≠ x) : suitR x = (0, false) := by
 have : (List.range 6).find? (fun (i : Nat) => decide (sN ((i : Int) + 1) = x)) = none := by
  rw [List.find?_eq_none]
  intro j hj
  simpa using h j (List.mem_range.1 hj)
 rw [suitR, this]
theorem suitR_some {x : List UInt8} {i : Nat} (hi : i < 6) (hx : sN ((i : Int) + 1) = x) (h : ∀ j : Nat, j < i → sN ((j : Int) + 1) ≠ x) : suitR x = ((i : Int) + 1, true) := by
 have : (List.range 6).find? (fun (i : Nat) => decide (sN ((i : Int) + 1) = x)) = some i := by
  rw [List.find?_range_eq_some]
  exact ⟨by simpa using hx, by simpa using hi, fun j hj => by simpa using h j hj⟩
 rw [suitR, this]
theorem rsuitOf_spec (ho : orc 104 = none) {h0 : AH} (hT : Told orc h0) (x : List UInt8) {h : AH} (hg : Grown h0 h) : acall orc T 104 [.str x] h = some (.tuple [.int .u8 (suitR x).1, .bool (suitR x).2], h) := by
 refine acall_sym ho tbl104 ?_
 refine GD ?_
 (have fct := @op_mv; refine GO ?_; clear fct)
 refine CodeK_loop (RsI x h) 6 ?_ ?_
 · exact ⟨rfl, rfl, rfl, 0, rfl, Nat.zero_le _, rfl, fun j hj => by omega⟩
 intro n tm h' I
 obtain ⟨i, hn, hi, e4, ha⟩ := I.st
 have el := I.len
 have e0 := I.t0
 obtain rfl := I.hp
 clear I
 by_cases hlt : i < 6
 case neg =>
  obtain rfl : i = 6 := by omega
  rw [suitR_none ha]
  have l1 : decide (((6 : Nat) : Int) + 1 ≤ 6) = false := by decide
  (have fct := Fj @el (Fj @e0 (Fj @e4 @l1)); refine GO ?_; clear fct)
  (have fct := @el; refine A_end ?_; clear fct; try exact trivial)
 case pos =>
  have l1 : decide ((i : Int) + 1 ≤ 6) = true := by rw [decide_eq_true_eq]; omega
  have w1 := wrap_u8a (n := i) (by omega)
  have c1 := hT.rsuit ((i : Int) + 1) (h.withLow h.n) (hg.low _) (by omega) (by omega)
  cases hq : decide (sN ((i : Int) + 1) = x) with
  | true =>
    rw [suitR_some hlt (of_decide_eq_true hq) ha]
    (have fct := Fj @el (Fj @e0 (Fj @e4 (Fj @l1 (Fj @c1 (Fj @hq fsAstr))))); refine GO ?_; clear fct)
    (have fct := @el; refine A_end ?_; clear fct; try exact trivial)
  | false =>
    have hx := of_decide_eq_false hq
    (have fct := Fj @el (Fj @e0 (Fj @e4 (Fj @l1 (Fj @c1 (Fj @hq (Fj fsAstr @w1)))))); refine GO ?_; clear fct)
    refine ⟨6 - (i + 1), by omega, by simp only [List.length_set, el], by simp only [fsTm, Nat.reduceBEq, Nat.reduceLT, el, e0], rfl, i + 1, rfl, by omega, by simp only [fsTm, Nat.reduceBEq, Nat.reduceLT, el], fun j hj => ?_⟩
    rcases Nat.lt_succ_iff_lt_or_eq.1 hj with hj | rfl
    · exact ha j hj
    · exact hx
theorem rows_spec (N : Nat) (ho : orc 120 = none) (h : AH) : ∃ v1 h1, acall orc T 120 [] h = some (v1, h1) ∧ (∃ (b : Nat) (cs : List AV), v1 = .slice (some (b, 0)) 8 (.exact 8) ∧ h1.get b = some (.cells cs false) ∧ b < h1.n ∧ (∀ i : Nat, i < 8 → cs[i * 4]? = some (.int .u8 ((i : Int) + 1)) ∧ cs[i * 4 + 1]? = some (.str (tN ((i : Int) + 1)))) ∧ Kp N h h1) := by
 refine acall_facts (R := fun v1 h1 => ∃ (b : Nat) (cs : List AV), v1 = .slice (some (b, 0)) 8 (.exact 8) ∧ h1.get b = some (.cells cs false) ∧ b < h1.n ∧ (∀ i : Nat, i < 8 → cs[i * 4]? = some (.int .u8 ((i : Int) + 1)) ∧ cs[i * 4 + 1]? = some (.str (tN ((i : Int) + 1)))) ∧ Kp N h h1) ho tbl120 ?_
 simp only [settle_fst1]
 refine GD ?_
 (have fct := Fj @op_litS (Fj fsReps (Fj @Fs.over.eq_1 (Fj @List.length_append.{0} @List.append_assoc.{0}))); refine GO ?_; clear fct)
 have hv : AV.under h.n (AV.slice (some (h.n, 0)) 8 (Cap.exact 8)) = false := by simp [AV.under]
 refine ⟨.inr rfl, .slice (some (h.n, 0)) 8 (.exact 8), rfl, h.n, _, rfl, (by rw [get_settle hv]; exact Hp.get_push_self _ _), ?_, ?_, ?_⟩
 · rw [n_settle hv]; simp
 · intro i hi
   have : i = 0 ∨ i = 1 ∨ i = 2 ∨ i = 3 ∨ i = 4 ∨ i = 5 ∨ i = 6 ∨ i = 7 := by omega
   rcases this with rfl | rfl | rfl | rfl | rfl | rfl | rfl | rfl <;> exact ⟨rfl, rfl⟩
 · refine kp_settle (by simp) (fun b hb => ?_) (by simp)
   rw [Hp.get_push_ne _ _ _ (by simp; omega), Hp.get_withLow]
structure RtI (x : List UInt8) (v : AV) (h0 h1 : AH) (n : Nat) (tm : List AV) (h : AH) : Prop where
 len : tm.length = 25
 t0 : tm.getD 0 AV.undef = .str x
 t4 : tm.getD 4 AV.undef = v
 hp : h = h1
 st : ∃ i : Nat, n = 8 - i ∧ i ≤ 8 ∧ tm.getD 5 AV.undef = .int .i64 (i : Int) ∧ ∀ (j : Nat), j < i → tN ((j : Int) + 1) ≠ x
theorem rtraitOf_spec (ho : orc 105 = none) (ho1 : orc 120 = none) (x : List UInt8) (h : AH) : acall orc T 105 [.str x] h = some (.tuple [.int .u8 (traitOf x).1, .bool (traitOf x).2], h) := by
 refine acall_sym ho tbl105 ?_
 refine GD ?_
 (have fct := @op_mv; refine GO ?_; clear fct)
 refine R_ex (by simp (maxDischargeDepth := 12) only [opsB, Nat.reduceEqDiff, Nat.reduceBEq, Nat.reduceBNe, Int.reduceBEq, Int.reduceBNe, Int.reduceLT, Int.reduceLE, Int.reduceEq, AV.one, AV.cells, CA.ev, abin, aint, aun, isShift, readVar, readCell, readCells, writeCells, fillA, reduceIte, Nat.reduceAdd, Nat.reduceSub, Nat.reduceLT, Nat.reduceLeDiff, resAll, resOne, AV.under, AV.unders, cut]; (first | done | with_reducible rfl)) (rows_spec h.n ho1 (h.withLow h.n)) fun v1 H1 hR => ?_
 obtain ⟨b, cs, rfl, g1, nb, hc, kp⟩ := hR
 refine A_tm ?_
 have lo := kp.low (by simp) (by simp)
 have hn0 := kp.n
 simp only [Hp.n_withLow] at hn0
 clear kp
 (have fct := @op_mv; refine GO ?_; clear fct)
 refine CodeK_loop (RtI x (.slice (some (b, 0)) 8 (.exact 8)) h H1) 8 ?_ ?_
 · exact ⟨rfl, rfl, rfl, rfl, 0, rfl, Nat.zero_le _, rfl, fun j hj => by omega⟩
 intro n tm h' I
 obtain ⟨i, hn, hi, e5, ha⟩ := I.st
 have el := I.len
 have e0 := I.t0
 have e4 := I.t4
 obtain rfl := I.hp
 clear I
 by_cases hlt : i < 8
 case neg =>
  obtain rfl : i = 8 := by omega
  rw [traitOf_none ha]
  have l1 : decide (((8 : Nat) : Int) < ((8 : Nat) : Int)) = false := by decide
  (have fct := Fj @el (Fj @e0 (Fj @e4 (Fj @e5 @l1))); refine GO ?_; clear fct)
  (have fct := Fj @el @lo; refine A_end ?_; clear fct; try exact trivial)
 case pos =>
  have l1 : decide ((i : Int) < ((8 : Nat) : Int)) = true := by rw [decide_eq_true_eq]; omega
  have w1 := wrap_small (n := (i : Int) + 1) (by omega) (by omega)
  have a1 := fun (hh : AH) => iaddrV_nat (h := hh) (esz := 4) (b := b) (o := 0) (c := .exact 8) (k := .i64) hlt
  have q1 := (hc i hlt).1
  have q2 := (hc i hlt).2
  cases hq : decide (tN ((i : Int) + 1) = x) with
  | true =>
    rw [traitOf_some hlt (of_decide_eq_true hq) ha]
    (have fct := Fj @el (Fj @e0 (Fj @e4 (Fj @e5 (Fj @l1 (Fj @a1 (Fj @g1 (Fj @q1 (Fj @q2 (Fj @hq fsAstr))))))))); refine GO ?_; clear fct)
    (have fct := Fj @el @lo; refine A_end ?_; clear fct; try exact trivial)
  | false =>
    have hx := of_decide_eq_false hq
    (have fct := Fj @el (Fj @e0 (Fj @e4 (Fj @e5 (Fj @l1 (Fj @a1 (Fj @g1 (Fj @q1 (Fj @q2 (Fj @hq (Fj fsAstr @w1)))))))))); refine GO ?_; clear fct)
    refine ⟨8 - (i + 1), by omega, by simp only [List.length_set, el], by simp only [fsTm, Nat.reduceBEq, Nat.reduceLT, el, e0], by simp only [fsTm, Nat.reduceBEq, Nat.reduceLT, el, e4], rfl, i + 1, rfl, by omega, by simp only [fsTm, Nat.reduceBEq, Nat.reduceLT, el]; rfl, fun j hj => ?_⟩
    rcases Nat.lt_succ_iff_lt_or_eq.1 hj with hj | rfl
    · exact ha j hj
    · exact hx
theorem slcS_at {call : Rec} {tm : List AV} {h : AH} {x a b : CA} {s : List UInt8} {k k' : IntKind} {l r : Nat} (hx : x.ev tm = .str s) (ha : a.ev tm = .int k (l : Int)) (hb : b.ev tm = .int k' (r : Int)) (h1 : l ≤ r) (h2 : r ≤ s.length) :
    runOp call (.slcS x (some a) (some b)) tm h = some (.str ((s.drop l).take (r - l)), h) := by
 have e : bounds3 tm s.length s.length (some a) (some b) none = some (l, r, s.length) := by
  unfold bounds3
  simp only [optBound, hb, ha, bound, highOf, Option.bind_some]
  rw [if_pos ⟨by omega, by omega⟩]
  simp only [Int.toNat_natCast, Option.bind_some]
  rw [if_pos ⟨by omega, by omega⟩]
  simp
 simp only [runOp, CO.quiet, quietRun, if_true, hx, e, Option.map_some]
theorem app_any {M : Nat} {h : AH} {bx : Nat} {v : AV} {x : List UInt8} {R : List (List UInt8)} (hf : (R = [] ∧ v = .slice none 0 (.exact 0)) ∨ RowL M h v R) (hN : M < h.n) (hl2 : R.length ≤ 1000) (hbx : h.get bx = some (.cells [.str x] false)) :
    ∃ v' h', appendRun 1 16 v (.slice (some (bx, 0)) 1 (.exact 1)) h = some (v', h') ∧ (RowL M h' v' (R ++ [x]) ∧ h.n ≤ h'.n ∧ (∀ b, b ≤ M → h'.get b = h.get b) ∧ (M ≤ h.low → M ≤ h'.low)) := by
 rcases hf with ⟨rfl, rfl⟩ | hf
 · have e1 : lenOf (.slice (some (bx, 0)) 1 (.exact 1)) = some 1 := rfl
   have e2 : elemsOf 1 h (.slice (some (bx, 0)) 1 (.exact 1)) = some [.str x] := by
    simp [elemsOf, readCells, hbx, Fs.cut]
   refine ⟨_, h.push (.cells [.str x] false), ?_, ⟨h.n, .opn 1, hN, by simp, .inl rfl, rfl, Hp.get_push_self _ _, by simp⟩, by simp, fun b' hb' => Hp.get_push_ne _ _ _ (by omega), fun hl => hl⟩
   unfold appendRun
   rw [e1, e2]
   simp [appendCore, elemsOf]
 · exact app_row hf hN hl2 hbx
def noB32 (s : List UInt8) (a b : Nat) : Prop := ∀ (j : Nat) (c : UInt8), a ≤ j → j < b → s[j]? = some c → c ≠ 32
theorem split_last {s : List UInt8} {a : Nat} (h : noB32 s a s.length) : Lib.split (s.drop a) [32] = [(s.drop a).take (s.length - a)] := by
 rw [List.take_of_length_le (by simp), Plain.split_word]
 intro b hb
 obtain ⟨j, hj⟩ := List.getElem?_of_mem hb
 rw [List.getElem?_drop] at hj
 exact h (a + j) b (by omega) (List.getElem?_eq_some_iff.1 hj).1 hj
theorem split_blank {s : List UInt8} {a i : Nat} (hai : a ≤ i) (hi : s[i]? = some 32) (h : noB32 s a i) : Lib.split (s.drop a) [32] = (s.drop a).take (i - a) :: Lib.split (s.drop (i + 1)) [32] := by
 have hl := (List.getElem?_eq_some_iff.1 hi).1
 have e : s.drop a = (s.drop a).take (i - a) ++ 32 :: s.drop (i + 1) := by
  conv => lhs; rw [← List.take_append_drop (i - a) (s.drop a)]
  rw [List.drop_drop, show a + (i - a) = i by omega]
  congr 1
  rw [List.drop_eq_getElem_cons hl]
  rw [(List.getElem?_eq_some_iff.1 hi).2]
 conv => lhs; rw [e]
 rw [Plain.split_app]
 intro b hb
 obtain ⟨j, hj⟩ := List.getElem?_of_mem hb
 rw [List.getElem?_take] at hj
 split at hj
 · rw [List.getElem?_drop] at hj
   exact h (a + j) b (by omega) (by omega) hj
 · cases hj
end Go.Proofs.Ef
