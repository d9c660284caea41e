/- What stands ahead of a card's parts, read. -/
import Derived.Test.YtjmhjipacmlojaaGreatDoorFz05
import Derived.Test.YtjmhjipacmlojaaGreatDoorZcCdPrint
namespace Go.Proofs.Cards
set_option maxRecDepth 100000
set_option maxHeartbeats 32000000
open Go Go.Fs
set_option linter.unusedSimpArgs false
set_option linter.unusedVariables false
variable {orc : Orc}
def cf69 : CF := ⟨13, [(.tmp 4), (.tmp 5), (.tmp 6)], (.seq (.region [Zo 4 (.mv (.c (.str []))), Zo 5 (.mv (.c (.str []))), Zo 6 (.mv (.c (.bool false)))]) (.seq (.region [Zm 7 0, Zm 8 1, Zo 9 (.call (.f 110) [(.t 7), (.t 8)]), Ze 10 0 9, Ze 11 1 9, Ze 12 2 9, Zm 4 10, Zm 5 11, Zm 6 12]) .ret))⟩
def cf110 : CF := ⟨23, [(.tmp 4), (.tmp 5), (.tmp 6)], (.seq (.region [Zo 4 (.mv (.c (.str []))), Zo 5 (.mv (.c (.str []))), Zo 6 (.mv (.c (.bool false)))]) (.seq (.seq (.region [Zm 8 0, Zm 9 1, Zo 10 (.call (.f 140) [(.t 8), (.t 9)]), Zm 7 10]) (.seq (.region [Zm 11 7, Zb 12 .geq (.t 11) (.c (.int .i64 0))]) (.cond (.t 12) (.seq (.regionD [⟨Zm 13 0, 0, 0, false⟩, ⟨Zm 14 7, 0, 0, false⟩, ⟨Zo 15 (.slcS (.t 13) none (some (.t 14))), 0, 0, false⟩, ⟨Zm 16 0, 0, 0, false⟩, ⟨Zm 17 7, 0, 0, false⟩, ⟨Zm 18 1, 0, 0, false⟩, ⟨Zo 19 (.lenS (.t 18)), 0, 0, false⟩, ⟨Zb 20 .add (.t 17) (.t 19), 0, 0, false⟩, ⟨Zo 21 (.slcS (.t 16) (some (.t 20)) none), 0, 0, false⟩, ⟨Zm 4 15, 0, 0, false⟩, ⟨Zm 5 21, 0, 0, false⟩, ⟨Zo 6 (.mv (.c (.bool true))), 0, 0, false⟩]) .ret) .skip))) (.seq (.region [Zm 22 0, Zm 4 22, Zo 5 (.mv (.c (.str []))), Zo 6 (.mv (.c (.bool false)))]) .ret)))⟩
def cf111 : CF := ⟨8, [(.tmp 4)], (.seq (.region [Zo 4 (.mv (.c (.bool false)))]) (.seq (.region [Zm 5 0, Zm 6 1, Zo 7 (.call (.f 141) [(.t 5), (.t 6)]), Zm 4 7]) .ret))⟩
def cf141 : CF := ⟨18, [(.tmp 4)], (.seq (.region [Zo 4 (.mv (.c (.bool false)))]) (.seq (.region [Zm 5 0, Zo 6 (.lenS (.t 5)), Zm 7 1, Zo 8 (.lenS (.t 7)), Zb 9 .geq (.t 6) (.t 8), Zm 10 9, Zg 11 (.mv (.t 0)) 10 true, Zg 12 (.mv (.t 1)) 10 true, Zg 13 (.lenS (.t 12)) 10 true, Zg 14 (.slcS (.t 11) none (some (.t 13))) 10 true, Zg 15 (.mv (.t 1)) 10 true, Zg 16 (.bin .eql .other (.t 14) (.t 15)) 10 true, Zo 17 (.pick (.t 10) (.t 16) (.c (.bool false))), Zm 4 17]) .ret))⟩
def cf112 : CF := ⟨9, [(.tmp 4)], (.seq (.region [Zo 4 (.mv (.c (.int .u16 0)))]) (.seq (.region [Zm 5 0, Zm 6 1, Zo 7 (.call (.f 116) [(.t 6)]), Zb 8 .or (.t 5) (.t 7), Zm 4 8]) .ret))⟩
def cf70 : CF := ⟨94, [(.cell 2 (some 9)), (.tmp 3)], (.seq (.region [Zo 2 (.alloc [(.str []), (.int .u8 0), (.int .u8 0), (.int .i64 0), (.int .i64 0), (.int .i64 0), (.int .u16 0), (.bool false), (.slice none 0 (.exact 0))]), Zo 3 (.mv (.c (.bool false)))]) (.seq (.region [Zo 4 (.alloc [(.str []), (.int .u8 0), (.int .u8 0), (.int .i64 0), (.int .i64 0), (.int .i64 0), (.int .u16 0), (.bool false), (.slice none 0 (.exact 0))])]) (.seq (.seq (.region [Zm 13 0, Zo 14 (.lenV (.t 13)), Zb 15 .lss (.t 14) (.c (.int .i64 4))]) (.cond (.t 15) (.seq (.region [Zo 16 (.load (some 9) (.t 4)), Zn (.store 9 (.t 2) (.t 16)), Zo 3 (.mv (.c (.bool false)))]) .ret) .skip)) (.seq (.region [Zm 17 0, Zo 18 (.iaddrS 1 (.t 17) (.c (.int .i64 0))), Zl 19 18, Zf 20 0 4, Zn (.store 1 (.t 20) (.t 19))]) (.seq (.region [Zm 22 0, Zo 23 (.iaddrS 1 (.t 22) (.c (.int .i64 1))), Zl 24 23, Zo 25 (.call (.f 56) [(.t 24)]), Zm 21 25, Ze 26 0 21, Ze 27 1 21, Zf 28 1 4, Zn (.store 1 (.t 28) (.t 26))]) (.seq (.seq (.region [Zo 5 (.mv (.c (.int .u8 1)))]) (.block 0 (.loop (.seq (.seq (.region [Zm 29 5, Zb 30 .leq (.t 29) (.c (.int .u8 3))]) (.cond (.t 30) .skip (.exit 0))) (.seq (.block 1 (.seq (.regionD [⟨Zm 33 5, 0, 0, false⟩, ⟨Zo 34 (.call (.f 31) [(.t 33)]), 0, 1, false⟩, ⟨Zm 35 0, 0, 1, false⟩, ⟨Zo 36 (.iaddrS 1 (.t 35) (.c (.int .i64 2))), 0, 1, false⟩, ⟨Zl 37 36, 0, 1, false⟩, ⟨Zb 38 .eql (.t 34) (.t 37), 1, 1, false⟩]) (.cond (.t 38) (.region [Zm 39 5, Zf 40 2 4, Zn (.store 1 (.t 40) (.t 39))]) .skip))) (.region [Zm 31 5, Zb 32 .add (.t 31) (.c (.int .u8 1)), Zm 5 32])))))) (.seq (.region [Zm 42 0, Zo 43 (.iaddrS 1 (.t 42) (.c (.int .i64 3))), Zl 44 43, Zo 45 (.call (.f 55) [(.t 44)]), Zm 41 45, Ze 46 0 41, Ze 47 1 41, Zf 48 3 4, Zn (.store 1 (.t 48) (.t 46))]) (.seq (.seq (.region [Zm 49 0, Zo 50 (.slcV 1 (.t 49) (some (.c (.int .i64 4))) none none), Zo 51 (.lenV (.t 50)), Zo 52 (.mv (.c (.int .i64 0)))]) (.block 2 (.loop (.seq (.region [Zb 53 .lss (.t 52) (.t 51)]) (.seq (.cond (.t 53) .skip (.exit 2)) (.seq (.block 3 (.seq (.region [Zo 54 (.iaddrS 1 (.t 50) (.t 52)), Zl 55 54, Zm 7 55]) (.block 4 (.seq (.region [Zm 75 7, Zb 76 .eql (.t 75) (.c (.str [116, 111, 107, 101, 110])), Zm 74 76]) (.cond (.t 74) (.region [Zf 77 7 4, Zn (.store 1 (.t 77) (.c (.bool true)))]) (.seq (.region [Zm 79 7, Zo 80 (.call (.f 111) [(.t 79), (.c (.str [43]))]), Zm 78 80]) (.cond (.t 78) (.seq (.region [Zm 82 7, Zo 83 (.slcS (.t 82) (some (.c (.int .i64 1))) none), Zo 84 (.call (.f 57) [(.t 83)]), Zm 81 84, Ze 85 0 81, Ze 86 1 81, Zm 8 85, Zm 9 86]) (.region [Zf 87 6 4, Zl 88 87, Zm 89 8, Zo 90 (.call (.f 112) [(.t 88), (.t 89)]), Zf 91 6 4, Zn (.store 1 (.t 91) (.t 90))])) (.seq (.region [Zm 57 7, Zo 58 (.call (.f 69) [(.t 57), (.c (.str [47]))]), Zm 56 58, Ze 59 0 56, Ze 60 1 56, Ze 61 2 56, Zm 10 59, Zm 11 60, Zm 12 61]) (.seq (.region [Zm 63 10, Zo 64 (.call (.f 55) [(.t 63)]), Zm 62 64, Ze 65 0 62, Ze 66 1 62, Zf 67 4 4, Zn (.store 1 (.t 67) (.t 65))]) (.region [Zm 69 11, Zo 70 (.call (.f 55) [(.t 69)]), Zm 68 70, Ze 71 0 68, Ze 72 1 68, Zf 73 5 4, Zn (.store 1 (.t 73) (.t 71))])))))))))) (.region [Zb 92 .add (.t 52) (.c (.int .i64 1)), Zm 52 92]))))))) (.seq (.region [Zo 93 (.load (some 9) (.t 4)), Zn (.store 9 (.t 2) (.t 93)), Zo 3 (.mv (.c (.bool true)))]) .ret)))))))))⟩
theorem tbl69 : tbl Tryz.prog 69 = some cf69 := by kernel_rfl
theorem tbl110 : tbl Tryz.prog 110 = some cf110 := by kernel_rfl
theorem tbl111 : tbl Tryz.prog 111 = some cf111 := by kernel_rfl
theorem tbl141 : tbl Tryz.prog 141 = some cf141 := by kernel_rfl
theorem tbl112 : tbl Tryz.prog 112 = some cf112 := by kernel_rfl
theorem tbl70 : tbl Tryz.prog 70 = some cf70 := by kernel_rfl
structure CTold (orc : Orc) (h0 : AH) (atoiV : List UInt8 → Int) (sf : List UInt8 → Int × Bool) : Prop where
 index : ∀ (a b : List UInt8) (h : AH), Grown h0 h → a.length ≤ 1000 → acall orc T 140 [.str a, .str b] h = some (.int .i64 (Lib.index a b), h)
 split : ∀ (s : List UInt8) (h : AH), Grown h0 h → s.length ≤ 1000 → acall orc T 50 [.str s, .str [32]] h = some (.slice (some (h.n, 0)) (Lib.split s [32]).length (.exact (Lib.split s [32]).length), h.push (.cells ((Lib.split s [32]).map AV.str) false))
 atoi : ∀ (s : List UInt8) (h : AH), Grown h0 h → s.length ≤ 1000 → acall orc T 55 [.str s] h = some (.tuple [.int .i64 (atoiV s), .junk true], h)
 suit : ∀ (s : List UInt8) (h : AH), acall orc T 56 [.str s] h = some (.tuple [.int .u8 (sf s).1, .bool (sf s).2], h)
def cutA (s sep : List UInt8) : List UInt8 := if 0 ≤ Lib.index s sep then s.take (Lib.index s sep).toNat else s
def cutB (s sep : List UInt8) : List UInt8 := if 0 ≤ Lib.index s sep then s.drop ((Lib.index s sep).toNat + sep.length) else []
def cutM (s sep : List UInt8) : Bool := decide (0 ≤ Lib.index s sep)
theorem index_room {s sep : List UInt8} (h : 0 ≤ Lib.index s sep) : (Lib.index s sep).toNat + sep.length ≤ s.length := by
 induction s with
 | nil =>
   unfold Lib.index at h ⊢
   split
   · rename_i hs
     simp at hs; subst hs; simp
   · rename_i hs
     rw [if_neg hs] at h; omega
 | cons b l ih =>
   unfold Lib.index at h ⊢
   split
   · rename_i hs
     have := (List.isPrefixOf_iff_prefix.1 hs).length_le
     simpa using this
   · rename_i hs
     rw [if_neg hs] at h
     split at h
     · omega
     · rename_i h2
       rw [if_neg h2]
       have hge := Lib.index_ge l sep
       have hn : Lib.index l sep ≠ -1 := by simpa using h2
       have := ih (by omega)
       simp only [List.length_cons]; omega
theorem slcS_lo {call : Rec} {tm : List AV} {h : AH} {x a : CA} {s : List UInt8} {k : IntKind} {l : Nat} (hx : x.ev tm = .str s) (ha : a.ev tm = .int k (l : Int)) (h1 : l ≤ s.length) :
    runOp call (.slcS x (some a) none) tm h = some (.str (s.drop l), h) := by
 have e : bounds3 tm s.length s.length (some a) none none = some (l, s.length, s.length) := by
  unfold bounds3
  simp only [optBound, ha, bound, highOf, Option.bind_some]
  rw [if_pos ⟨by omega, by omega⟩]
  simp
 simp only [runOp, CO.quiet, quietRun, if_true, hx, e, Option.map_some]
 rw [List.take_of_length_le (by simp)]
theorem slcS_hi {call : Rec} {tm : List AV} {h : AH} {x b : CA} {s : List UInt8} {k : IntKind} {r : Nat} (hx : x.ev tm = .str s) (hb : b.ev tm = .int k (r : Int)) (h1 : r ≤ s.length) :
    runOp call (.slcS x none (some b)) tm h = some (.str (s.take r), h) := by
 have e : bounds3 tm s.length s.length none (some b) none = some (0, r, s.length) := by
  unfold bounds3
  simp only [optBound, hb, bound, highOf, Option.bind_some]
  rw [if_pos ⟨by omega, by omega⟩]
  simp
 simp only [runOp, CO.quiet, quietRun, if_true, hx, e, Option.map_some, List.drop_zero, Nat.sub_zero]
theorem lcut_spec (ho : orc 110 = none) {h0 : AH} {atoiV : List UInt8 → Int} {sf : List UInt8 → Int × Bool} (hC : CTold orc h0 atoiV sf) (s sep : List UInt8) (hl : s.length ≤ 1000) (hs : sep.length ≤ 100) {h : AH} (hg : Grown h0 h) : acall orc T 110 [.str s, .str sep] h = some (.tuple [.str (cutA s sep), .str (cutB s sep), .bool (cutM s sep)], h) := by
 refine acall_sym ho tbl110 ?_
 have c1 := hC.index s sep _ (hg.low h.n) hl
 refine GD ?_
 unfold cutA cutB cutM
 by_cases hi : 0 ≤ Lib.index s sep
 case neg =>
  have l1 : decide (0 ≤ Lib.index s sep) = false := by simpa using hi
  rw [if_neg hi, if_neg hi, l1]
  (have fct := Fj @c1 @l1; refine GOD ?_; clear fct)
  (have fct := trivial; refine A_end ?_; clear fct; try exact trivial)
 case pos =>
  have l1 : decide (0 ≤ Lib.index s sep) = true := by simpa using hi
  have hr := index_room hi
  rw [if_pos hi, if_pos hi, l1]
  obtain ⟨i, hi'⟩ : ∃ i : Nat, Lib.index s sep = (i : Int) := ⟨_, (Int.toNat_of_nonneg hi).symm⟩
  rw [hi'] at c1 l1 hr ⊢
  simp only [Int.toNat_natCast] at hr ⊢
  have w1 : IntKind.wrap .i64 ((i : Int) + (sep.length : Int)) = ((i + sep.length : Nat) : Int) := by rw [Ef.wrap_small (by omega) (by omega)]; omega
  (have fct := Fj @c1 @l1; refine GOD ?_; clear fct)
  refine D_cons (slcS_hi (k := .i64) (s := s) (r := i) (by simp only [CA.ev, List.getD_cons_zero, List.getD_cons_succ]) (by simp only [CA.ev, List.getD_cons_zero, List.getD_cons_succ]) (by omega)) (by simp only [put, List.set_cons_succ, List.set_cons_zero]; (first | done | with_reducible rfl)) rfl rfl ?_
  (have fct := @w1; refine GOD ?_; clear fct)
  refine D_cons (slcS_lo (k := .i64) (s := s) (l := i + sep.length) (by simp only [CA.ev, List.getD_cons_zero, List.getD_cons_succ]) (by simp only [CA.ev, List.getD_cons_zero, List.getD_cons_succ]) (by omega)) (by simp only [put, List.set_cons_succ, List.set_cons_zero]; (first | done | with_reducible rfl)) rfl rfl ?_
  (have fct := @w1; refine GOD ?_; clear fct)
  (have fct := trivial; refine A_end ?_; clear fct; try exact trivial)
theorem cut_spec (ho : ∀ f, f ∈ [69, 110] → orc f = none) {h0 : AH} {atoiV : List UInt8 → Int} {sf : List UInt8 → Int × Bool} (hC : CTold orc h0 atoiV sf) (s sep : List UInt8) (hl : s.length ≤ 1000) (hs : sep.length ≤ 100) {h : AH} (hg : Grown h0 h) : acall orc T 69 [.str s, .str sep] h = some (.tuple [.str (cutA s sep), .str (cutB s sep), .bool (cutM s sep)], h) := by
 refine acall_sym (ho _ (by simp)) tbl69 ?_
 have c1 := lcut_spec (orc := orc) (ho _ (by simp)) hC s sep hl hs (hg.low h.n)
 refine GD ?_
 (have fct := @c1; refine GO ?_; clear fct)
 (have fct := trivial; refine A_end ?_; clear fct; try exact trivial)
theorem plus_spec (ho : ∀ f, f ∈ [111, 141] → orc f = none) (s : List UInt8) (h : AH) : acall orc T 111 [.str s, .str [43]] h = some (.bool (decide (s.take 1 = [43])), h) := by
 have c1 : ∀ h : AH, acall orc T 141 [.str s, .str [43]] h = some (.bool (decide (s.take 1 = [43])), h) := fun h => by
  refine acall_sym (ho _ (by simp)) tbl141 ?_
  refine GD ?_
  by_cases hl : 1 ≤ s.length
  · have l1 : decide (((1 : Nat) : Int) ≤ (s.length : Int)) = true := by rw [decide_eq_true_eq]; omega
    (have fct := @l1; refine GO ?_; clear fct)
    refine R_any (by simp only [CR.wanted, List.getD_cons_zero, List.getD_cons_succ]; rfl) (slcS_hi (k := .i64) (s := s) (r := 1) (by simp only [CA.ev, List.getD_cons_zero, List.getD_cons_succ]) (by simp only [CA.ev, List.getD_cons_zero, List.getD_cons_succ]) hl) (by simp only [put, List.set_cons_succ, List.set_cons_zero]; (first | done | with_reducible rfl)) ?_
    (have fct := Fj @l1 fsAstr; refine GO ?_; clear fct)
    (have fct := trivial; refine A_end ?_; clear fct; try exact trivial)
  · have l1 : decide (((1 : Nat) : Int) ≤ (s.length : Int)) = false := by rw [decide_eq_false_iff_not]; omega
    have e : s = [] := List.eq_nil_of_length_eq_zero (by omega)
    have e2 : decide (s.take 1 = [43]) = false := by rw [e]; rfl
    rw [e2]
    (have fct := @l1; refine GO ?_; clear fct)
    (have fct := trivial; refine A_end ?_; clear fct; try exact trivial)
 refine acall_sym (ho _ (by simp)) tbl111 ?_
 have c1 := c1
 refine GD ?_
 (have fct := @c1; refine GO ?_; clear fct)
 (have fct := trivial; refine A_end ?_; clear fct; try exact trivial)
def withT (s t : Int) : Int := Go.bits .or .u16 s (if isT t = true then bitT t else 0)
theorem with_spec (ho : ∀ f, f ∈ [112, 116, 79] → orc f = none) (s t : Int) (h1 : 0 ≤ t) (h8 : t ≤ 8) (h : AH) : acall orc T 112 [.int .u16 s, .int .u8 t] h = some (.int .u16 (withT s t), h) := by
 have c1 : ∀ h : AH, acall orc T 116 [.int .u8 t] h = some (.int .u16 (if isT t = true then bitT t else 0), h) := fun h => by
  by_cases ht : 1 ≤ t
  · have e1 : isT t = true := by simp [isT, ht, h8]
    rw [e1, if_pos rfl]
    exact tbit_spec (fun f hf => ho f (by revert hf; simp only [List.mem_cons, List.mem_nil_iff, or_false]; intro hf; omega)) t ht h8 h
  · obtain rfl : t = 0 := by omega
    have c2 := tis_spec (orc := orc) (ho _ (by simp)) 0
    rw [show isT 0 = false from rfl] at c2 ⊢
    refine acall_sym (ho _ (by simp)) tbl116 ?_
    refine GD ?_
    (have fct := @c2; refine GO ?_; clear fct)
    (have fct := trivial; refine A_end ?_; clear fct; try exact trivial)
 refine acall_sym (ho _ (by simp)) tbl112 ?_
 refine GD ?_
 (have fct := @c1; refine GO ?_; clear fct)
 (have fct := @withT.eq_1; refine A_end ?_; clear fct; try exact trivial)
def nilV : AV := .slice none 0 (.exact 0)
def kd (x : List UInt8) : Nat → Int
 | 0 => 0
 | n + 1 => if wrd ((n : Int) + 1) = x then (n : Int) + 1 else kd x n
def stepC (atoiV : List UInt8 → Int) (c : Crd) (w : List UInt8) : Crd :=
 if w = tokenT then { c with token := true }
 else if w.take 1 = [43] then { c with traits := withT c.traits (Ef.traitOf (w.drop 1)).1 }
 else { c with power := atoiV (cutA w [47]), health := atoiV (cutB w [47]) }
def zeroC : Crd := ⟨[], 0, 0, 0, 0, 0, 0, false⟩
def headC (atoiV : List UInt8 → Int) (sf : List UInt8 → Int × Bool) (L : List (List UInt8)) : Crd :=
 (L.drop 4).foldl (stepC atoiV) { zeroC with name := L.getD 0 [], suit := (sf (L.getD 1 [])).1, kind := kd (L.getD 2 []) 3, cost := atoiV (L.getD 3 []) }
theorem ov_0 (c : Crd) (v : AV) (x : List UInt8) : Fs.over (c.cells v) 0 [.str x] = ({ c with name := x } : Crd).cells v := rfl
theorem ov_1 (c : Crd) (v : AV) (x : Int) : Fs.over (c.cells v) 1 [.int .u8 x] = ({ c with suit := x } : Crd).cells v := rfl
theorem ov_2 (c : Crd) (v : AV) (x : Int) : Fs.over (c.cells v) 2 [.int .u8 x] = ({ c with kind := x } : Crd).cells v := rfl
theorem ov_3 (c : Crd) (v : AV) (x : Int) : Fs.over (c.cells v) 3 [.int .i64 x] = ({ c with cost := x } : Crd).cells v := rfl
theorem ov_4 (c : Crd) (v : AV) (x : Int) : Fs.over (c.cells v) 4 [.int .i64 x] = ({ c with power := x } : Crd).cells v := rfl
theorem ov_5 (c : Crd) (v : AV) (x : Int) : Fs.over (c.cells v) 5 [.int .i64 x] = ({ c with health := x } : Crd).cells v := rfl
theorem ov_6 (c : Crd) (v : AV) (x : Int) : Fs.over (c.cells v) 6 [.int .u16 x] = ({ c with traits := x } : Crd).cells v := rfl
theorem ov_7 (c : Crd) (v : AV) (x : Bool) : Fs.over (c.cells v) 7 [.bool x] = ({ c with token := x } : Crd).cells v := rfl
theorem ov_9 (c d : Crd) (v w : AV) : Fs.over (c.cells v) 0 (d.cells w) = d.cells w := rfl
theorem cells_len (c : Crd) (v : AV) : (c.cells v).length = 9 := rfl
theorem cells_take (c : Crd) (v : AV) : (c.cells v).take 9 = c.cells v := rfl
theorem cells_six (c : Crd) (v : AV) : (c.cells v)[6]? = some (.int .u16 c.traits) := rfl
theorem cells_one (c : Crd) : (c.cells nilV).all AV.one = true := rfl
structure CS (h0 : AH) (N b : Nat) (L : List (List UInt8)) (c : Crd) (h : AH) : Prop where
 gr : Grown h0 h
 g0 : h0.n ≤ N
 low : N ≤ h.low
 row : h.get b = some (.cells (L.map AV.str) false)
 res : h.get N = some (.cells (zeroC.cells nilV) false)
 card : h.get (N + 1) = some (.cells (c.cells nilV) false)
 n : b < N ∧ N + 1 < h.n
theorem CS.store {h0 h : AH} {N b : Nat} {L : List (List UInt8)} {c : Crd} (I : CS h0 N b L c h) (c' : Crd) : CS h0 N b L c' (h.set (N + 1) (.cells (c'.cells nilV) false)) := by
 have hn := I.n
 have hg := I.g0
 refine ⟨I.gr.set (by omega) _, I.g0, ?_, ?_, ?_, Hp.get_set_self _ _ _, by simpa using hn⟩
 · have := I.low; simp; omega
 · rw [Hp.get_set_ne _ _ _ _ (by omega)]; exact I.row
 · rw [Hp.get_set_ne _ _ _ _ (by omega)]; exact I.res
structure KdI (h0 : AH) (N b : Nat) (L : List (List UInt8)) (cap : Cap) (c : Crd) (x : List UInt8) (n : Nat) (tm : List AV) (h : AH) : Prop where
 len : tm.length = 94
 t0 : tm.getD 0 AV.undef = .slice (some (b, 0)) L.length cap
 t2 : tm.getD 2 AV.undef = .ptr (some (N, 0))
 t4 : tm.getD 4 AV.undef = .ptr (some (N + 1, 0))
 st : ∃ i : Nat, n = 3 - i ∧ i ≤ 3 ∧ tm.getD 5 AV.undef = .int .u8 ((i : Int) + 1) ∧ CS h0 N b L { c with kind := kd x i } h
structure WdI (atoiV : List UInt8 → Int) (h0 : AH) (N b o : Nat) (L : List (List UInt8)) (cap : Cap) (c : Crd) (n : Nat) (tm : List AV) (h : AH) : Prop where
 len : tm.length = 94
 t2 : tm.getD 2 AV.undef = .ptr (some (N, 0))
 t4 : tm.getD 4 AV.undef = .ptr (some (N + 1, 0))
 t50 : tm.getD 50 AV.undef = .slice (some (b, o)) (L.drop 4).length cap
 t51 : tm.getD 51 AV.undef = .int .i64 ((L.drop 4).length : Int)
 st : ∃ i : Nat, n = (L.drop 4).length - i ∧ i ≤ (L.drop 4).length ∧ tm.getD 52 AV.undef = .int .i64 (i : Int) ∧ CS h0 N b L (((L.drop 4).take i).foldl (stepC atoiV) c) h
theorem trait_room (x : List UInt8) : 0 ≤ (Ef.traitOf x).1 ∧ (Ef.traitOf x).1 ≤ 8 := by
 unfold Ef.traitOf
 split
 · rename_i i hi
   have := List.mem_of_find?_eq_some hi
   rw [List.mem_range] at this
   exact ⟨by simp only; omega, by simp only; omega⟩
 · exact ⟨by simp, by simp⟩
theorem cutA_len (s sep : List UInt8) : (cutA s sep).length ≤ s.length := by unfold cutA; split <;> simp <;> omega
theorem cutB_len (s sep : List UInt8) : (cutB s sep).length ≤ s.length := by unfold cutB; split <;> simp <;> omega
theorem slcVV_four {b n : Nat} (tm : List AV) (h : AH) (h4 : 4 ≤ n) : slcVV tm 1 (.slice (some (b, 0)) n (.exact n)) (some (.c (.int .i64 4))) none none h = some (.slice (some (b, if n = 4 then 0 else 4)) (n - 4) (.exact (n - 4)), h) := by
 have hb : bounds3 tm n n (some (.c (.int .i64 4))) none none = some (4, n, n) := by
  unfold bounds3
  simp only [optBound, CA.ev, bound]
  simp [highOf]
  omega
 unfold slcVV
 simp only [quietRun, CA.ev, hb, Option.map_some]
 by_cases hn : n = 4
 · subst hn; simp
 · have : n - 4 ≠ 0 := by omega
   simp [hn, this]
theorem read_spec {h0 : AH} {atoiV : List UInt8 → Int} {sf : List UInt8 → Int × Bool} (ho : ∀ f, f ∈ [70, 31, 69, 110, 111, 141, 112, 116, 79, 57] → orc f = none) (hC : CTold orc h0 atoiV sf) (hT : Ef.Told orc h0) (L : List (List UInt8)) (b : Nat) (hl : L.length ≤ 1000) (hL : ∀ x ∈ L, x.length ≤ 600) (h4 : 4 ≤ L.length) {h : AH} (hg : Grown h0 h) (hb : h.get b = some (.cells (L.map AV.str) false)) (hbn : b < h.n) :
    acall orc T 70 [.slice (some (b, 0)) L.length (.exact L.length)] h = some (.tuple [.agg ((headC atoiV sf L).cells nilV), .bool true], h) := by
 have sub : ∀ l : List Nat, (∀ f ∈ l, f ∈ [70, 31, 69, 110, 111, 141, 112, 116, 79, 57]) → ∀ f, f ∈ l → orc f = none := fun l hl f hf => ho f (hl f hf)
 refine acall_sym (ho _ (by simp)) tbl70 ?_
 have l1 : decide ((L.length : Int) < 4) = false := by rw [decide_eq_false_iff_not]; omega
 obtain ⟨x0, hx0⟩ : ∃ x, L[0]? = some x := ⟨_, List.getElem?_eq_getElem (show 0 < L.length by omega)⟩
 obtain ⟨x1, hx1⟩ : ∃ x, L[1]? = some x := ⟨_, List.getElem?_eq_getElem (show 1 < L.length by omega)⟩
 obtain ⟨x2, hx2⟩ : ∃ x, L[2]? = some x := ⟨_, List.getElem?_eq_getElem (show 2 < L.length by omega)⟩
 obtain ⟨x3, hx3⟩ : ∃ x, L[3]? = some x := ⟨_, List.getElem?_eq_getElem (show 3 < L.length by omega)⟩
 have m0 : (L.map AV.str)[0]? = some (.str x0) := by rw [List.getElem?_map, hx0]; rfl
 have m1 : (L.map AV.str)[1]? = some (.str x1) := by rw [List.getElem?_map, hx1]; rfl
 have m2 : (L.map AV.str)[2]? = some (.str x2) := by rw [List.getElem?_map, hx2]; rfl
 have m3 : (L.map AV.str)[3]? = some (.str x3) := by rw [List.getElem?_map, hx3]; rfl
 have a0 : ∀ hh : AH, iaddrV 1 (.slice (some (b, 0)) L.length (.exact L.length)) (.int .i64 0) hh = some (.ptr (some (b, 0)), hh) := fun hh => iaddrV_at (h := hh) (esz := 1) (b := b) (o := 0) (len := L.length) (c := .exact L.length) (k := .i64) (n := 0) (by omega) (by omega)
 have a1 : ∀ hh : AH, iaddrV 1 (.slice (some (b, 0)) L.length (.exact L.length)) (.int .i64 1) hh = some (.ptr (some (b, 1)), hh) := fun hh => iaddrV_at (h := hh) (esz := 1) (b := b) (o := 0) (len := L.length) (c := .exact L.length) (k := .i64) (n := 1) (by omega) (by omega)
 have a2 : ∀ hh : AH, iaddrV 1 (.slice (some (b, 0)) L.length (.exact L.length)) (.int .i64 2) hh = some (.ptr (some (b, 2)), hh) := fun hh => iaddrV_at (h := hh) (esz := 1) (b := b) (o := 0) (len := L.length) (c := .exact L.length) (k := .i64) (n := 2) (by omega) (by omega)
 have a3 : ∀ hh : AH, iaddrV 1 (.slice (some (b, 0)) L.length (.exact L.length)) (.int .i64 3) hh = some (.ptr (some (b, 3)), hh) := fun hh => iaddrV_at (h := hh) (esz := 1) (b := b) (o := 0) (len := L.length) (c := .exact L.length) (k := .i64) (n := 3) (by omega) (by omega)
 have cU := hC.suit x1
 refine GD ?_
 have eH : headC atoiV sf L = (L.drop 4).foldl (stepC atoiV) ⟨x0, (sf x1).1, kd x2 3, atoiV x3, 0, 0, 0, false⟩ := by
  unfold headC
  simp only [List.getD_eq_getElem?_getD, hx0, hx1, hx2, hx3, Option.getD_some]
  rfl
 rw [eH]
 clear eH
 have z9 : ∀ (hh : AH), (Blk.cells [AV.str [], AV.int .u8 0, AV.int .u8 0, AV.int .i64 0, AV.int .i64 0, AV.int .i64 0, AV.int .u16 0, AV.bool false, AV.slice none 0 (.exact 0)] false) = Blk.cells (zeroC.cells nilV) false := fun _ => rfl
 (have fct := @l1; refine GO ?_; clear fct)
 refine R_heap (CS h0 h.n b L zeroC) ?_ (fun H0 I0 => ?_)
 · refine ⟨((hg.low _).push _).push _, hg.1, by simp, ?_, ?_, ?_, by omega, by simp⟩
   · rw [Hp.get_push_ne _ _ _ (by simp; omega), Hp.get_push_ne _ _ _ (by simp; omega)]; exact hb
   · rw [Hp.get_push_ne _ _ _ (by simp)]; exact Hp.get_push_self _ _
   · exact Hp.get_push_self _ _
 have r0 := I0.row
 have k0 := I0.card
 (have fct := Fj @r0 (Fj @k0 (Fj @a0 (Fj @m0 (Fj @ov_0 (Fj @cells_len (Fj @Nat.mul_one (Fj @Nat.zero_mul @Int.toNat_zero))))))); refine GO ?_; clear fct)
 refine R_heap (CS h0 h.n b L { zeroC with name := x0 }) (I0.store _) (fun H1 I1 => ?_)
 have r1 := I1.row
 have k1 := I1.card
 clear r0 k0 I0
 (have fct := Fj @r1 (Fj @k1 (Fj @a1 (Fj @m1 (Fj @cU (Fj @ov_1 (Fj @cells_len (Fj @Nat.mul_one (Fj @Nat.zero_mul @Int.toNat_zero)))))))); refine GO ?_; clear fct)
 refine CodeK_loop (KdI h0 h.n b L (.exact L.length) ⟨x0, (sf x1).1, 0, 0, 0, 0, 0, false⟩ x2) 3 ?_ ?_
 · exact ⟨rfl, rfl, rfl, rfl, 0, rfl, by omega, rfl, I1.store _⟩
 clear r1 k1 I1 cU m0 m1
 intro n tm H I
 obtain ⟨i, hn, hi, e5, S⟩ := I.st
 have el := I.len
 have e0 := I.t0
 have e2 := I.t2
 have e4 := I.t4
 have r2 := S.row
 have k2 := S.card
 clear I
 by_cases hlt : i < 3
 case pos =>
  have l2 : decide ((i : Int) + 1 ≤ 3) = true := by rw [decide_eq_true_eq]; omega
  have w1 := Ef.wrap_u8a (n := i) (by omega)
  have cW := word_spec (orc := orc) (ho _ (by simp)) ((i : Int) + 1)
  cases hq : decide (wrd ((i : Int) + 1) = x2) with
  | true =>
    have hk : kd x2 (i + 1) = (i : Int) + 1 := by rw [kd, if_pos (of_decide_eq_true hq)]
    (have fct := Fj @el (Fj @e0 (Fj @e2 (Fj @e4 (Fj @e5 (Fj @l2 (Fj @cW (Fj @a2 (Fj @r2 (Fj @k2 (Fj @m2 (Fj @hq (Fj fsAstr (Fj @w1 (Fj @ov_2 (Fj @cells_len (Fj @Nat.mul_one (Fj @Nat.zero_mul @Int.toNat_zero))))))))))))))))); refine GOD ?_; clear fct)
    exact ⟨3 - (i + 1), by omega, by simp only [List.length_set, el], by simp only [fsTm, Nat.reduceBEq, Nat.reduceLT, e0], by simp only [fsTm, Nat.reduceBEq, Nat.reduceLT, e2], by simp only [fsTm, Nat.reduceBEq, Nat.reduceLT, e4], i + 1, rfl, by omega, by simp only [fsTm, Nat.reduceBEq, Nat.reduceLT, el], by rw [hk]; exact S.store _⟩
  | false =>
    have hk : kd x2 (i + 1) = kd x2 i := by rw [kd, if_neg (of_decide_eq_false hq)]
    (have fct := Fj @el (Fj @e0 (Fj @e2 (Fj @e4 (Fj @e5 (Fj @l2 (Fj @cW (Fj @a2 (Fj @r2 (Fj @k2 (Fj @m2 (Fj @hq (Fj fsAstr (Fj @w1 (Fj @ov_2 (Fj @cells_len (Fj @Nat.mul_one (Fj @Nat.zero_mul @Int.toNat_zero))))))))))))))))); refine GOD ?_; clear fct)
    exact ⟨3 - (i + 1), by omega, by simp only [List.length_set, el], by simp only [fsTm, Nat.reduceBEq, Nat.reduceLT, e0], by simp only [fsTm, Nat.reduceBEq, Nat.reduceLT, e2], by simp only [fsTm, Nat.reduceBEq, Nat.reduceLT, e4], i + 1, rfl, by omega, by simp only [fsTm, Nat.reduceBEq, Nat.reduceLT, el], by rw [hk]; exact S⟩
 case neg =>
  obtain rfl : i = 3 := by omega
  have l2 : decide (((3 : Nat) : Int) + 1 ≤ 3) = false := by decide
  have cA := hC.atoi x3 (H.withLow h.n)
  have cA' := hC.atoi x3 H S.gr (by have := hL x3 (List.mem_iff_getElem?.2 ⟨3, hx3⟩); omega)
  (have fct := Fj @el (Fj @e0 (Fj @e2 (Fj @e4 (Fj @e5 (Fj @l2 (Fj @a3 (Fj @cA' (Fj @r2 (Fj @k2 (Fj @m3 (Fj @ov_3 (Fj @cells_len (Fj @Nat.mul_one (Fj @Nat.zero_mul @Int.toNat_zero)))))))))))))); refine GOD ?_; clear fct)
  refine R_heap (CS h0 h.n b L ⟨x0, (sf x1).1, kd x2 3, atoiV x3, 0, 0, 0, false⟩) (S.store _) (fun H2 I2 => ?_)
  clear r2 k2 S l2
  have r2 := I2.row
  have k2 := I2.card
  have c4 := fun (tm : List AV) (hh : AH) => slcVV_four (n := L.length) (b := b) tm hh h4
  generalize go : (if L.length = 4 then 0 else 4) = o at c4
  have ho4 : 4 < L.length → o = 4 := by rw [← go]; intro hh; rw [if_neg (by omega)]
  (have fct := Fj @el (Fj @e0 (Fj @e2 (Fj @e4 (Fj @c4 @op_slcV)))); refine GOD ?_; clear fct)
  have dl : (L.drop 4).length = L.length - 4 := List.length_drop
  refine CodeK_loop (WdI atoiV h0 h.n b o L (.exact (L.length - 4)) ⟨x0, (sf x1).1, kd x2 3, atoiV x3, 0, 0, 0, false⟩) (L.drop 4).length ?_ ?_
  · exact ⟨by simp only [List.length_set, el], by simp only [fsTm, Nat.reduceBEq, Nat.reduceLT, e2], by simp only [fsTm, Nat.reduceBEq, Nat.reduceLT, e4], by simp only [fsTm, Nat.reduceBEq, Nat.reduceLT, el, dl], by simp only [fsTm, Nat.reduceBEq, Nat.reduceLT, el, dl], 0, rfl, by omega, by simp only [fsTm, Nat.reduceBEq, Nat.reduceLT, el]; rfl, I2⟩
  clear r2 k2 I2 cA cA' e5 c4 m2 m3 e0 e2 e4 el hb
  intro n tm3 H3 I
  obtain ⟨i, hn, hi, e52, S⟩ := I.st
  have el := I.len
  have e2 := I.t2
  have e4 := I.t4
  have e50 := I.t50
  have e51 := I.t51
  have r3 := S.row
  have k3 := S.card
  clear I
  by_cases hlt2 : i < (L.drop 4).length
  case pos =>
   have l2 : decide ((i : Int) < ((L.drop 4).length : Int)) = true := by rw [decide_eq_true_eq]; omega
   obtain ⟨w, hw⟩ : ∃ w, (L.drop 4)[i]? = some w := ⟨_, List.getElem?_eq_getElem hlt2⟩
   have hwl : w.length ≤ 600 := hL w (List.mem_of_mem_drop (List.mem_iff_getElem?.2 ⟨i, hw⟩))
   obtain rfl := ho4 (by omega)
   have m4 : (L.map AV.str)[4 + i]? = some (.str w) := by rw [List.getElem?_map, ← List.getElem?_drop, hw]; rfl
   have a4 : ∀ hh : AH, iaddrV 1 (.slice (some (b, 4)) (L.drop 4).length (.exact (L.length - 4))) (.int .i64 (i : Int)) hh = some (.ptr (some (b, 4 + i)), hh) := fun hh => by
    have := iaddrV_nat (h := hh) (esz := 1) (b := b) (o := 4) (c := .exact (L.length - 4)) (k := .i64) hlt2
    rwa [Nat.mul_one] at this
   have w1 : IntKind.wrap .i64 ((i : Int) + 1) = ((i + 1 : Nat) : Int) := by rw [Ef.wrap_small (by omega) (by omega)]; omega
   have hf : ∀ c : Crd, ((L.drop 4).take (i + 1)).foldl (stepC atoiV) c = stepC atoiV (((L.drop 4).take i).foldl (stepC atoiV) c) w := fun c => by rw [List.take_add_one, hw]; simp
   generalize hcc : ((L.drop 4).take i).foldl (stepC atoiV) ⟨x0, (sf x1).1, kd x2 3, atoiV x3, 0, 0, 0, false⟩ = cc at *
   have hf' := (hf ⟨x0, (sf x1).1, kd x2 3, atoiV x3, 0, 0, 0, false⟩).trans (by rw [hcc])
   clear hf
   have fin : ∀ (tm' : List AV) (H' : AH), tm'.length = 94 → tm'.getD 2 AV.undef = .ptr (some (h.n, 0)) → tm'.getD 4 AV.undef = .ptr (some (h.n + 1, 0)) → tm'.getD 50 AV.undef = .slice (some (b, 4)) (L.drop 4).length (.exact (L.length - 4)) → tm'.getD 51 AV.undef = .int .i64 ((L.drop 4).length : Int) → tm'.getD 52 AV.undef = .int .i64 ((i + 1 : Nat) : Int) → CS h0 h.n b L (stepC atoiV cc w) H' → ∃ m, m < n ∧ WdI atoiV h0 h.n b 4 L (.exact (L.length - 4)) ⟨x0, (sf x1).1, kd x2 3, atoiV x3, 0, 0, 0, false⟩ m tm' H' :=
    fun tm' H' q1 q2 q3 q4 q5 q6 q7 => ⟨(L.drop 4).length - (i + 1), by omega, q1, q2, q3, q4, q5, i + 1, rfl, by omega, q6, by rw [hf']; exact q7⟩
   cases hq : decide (w = [116, 111, 107, 101, 110]) with
   | true =>
     have hs : stepC atoiV cc w = { cc with token := true } := by unfold stepC tokenT; rw [if_pos (of_decide_eq_true hq)]
     (have fct := Fj @el (Fj @e2 (Fj @e4 (Fj @e50 (Fj @e51 (Fj @e52 (Fj @l2 (Fj @a4 (Fj @r3 (Fj @k3 (Fj @m4 (Fj @hq (Fj fsAstr (Fj @w1 (Fj @ov_7 (Fj @cells_len (Fj @Nat.mul_one (Fj @Nat.zero_mul @Int.toNat_zero))))))))))))))))); refine GOD ?_; clear fct)
     exact fin _ _ (by simp only [List.length_set, el]) (by simp only [fsTm, Nat.reduceBEq, Nat.reduceLT, e2]) (by simp only [fsTm, Nat.reduceBEq, Nat.reduceLT, e4]) (by simp only [fsTm, Nat.reduceBEq, Nat.reduceLT, e50]) (by simp only [fsTm, Nat.reduceBEq, Nat.reduceLT, e51]) (by simp only [fsTm, Nat.reduceBEq, Nat.reduceLT, el]) (by rw [hs]; exact S.store _)
   | false =>
     have cP := plus_spec (orc := orc) (sub _ (by decide)) w
     cases hp : decide (w.take 1 = [43]) with
     | true =>
       have hs : stepC atoiV cc w = { cc with traits := withT cc.traits (Ef.traitOf (w.drop 1)).1 } := by unfold stepC tokenT; rw [if_neg (of_decide_eq_false hq), if_pos (of_decide_eq_true hp)]
       rw [hp] at cP
       have hw1 : 1 ≤ w.length := by
        have := of_decide_eq_true hp
        cases w with
        | nil => cases this
        | cons _ _ => simp
       have cT := Ef.traitOf_spec (orc := orc) (sub [57] (by decide) _ (by simp)) hT (w.drop 1) S.gr
       have cT' := Ef.traitOf_spec (orc := orc) (sub [57] (by decide) _ (by simp)) hT (w.drop 1) (S.gr.low h.n)
       obtain ⟨t1, t8⟩ := trait_room (w.drop 1)
       have cH := with_spec (orc := orc) (sub _ (by decide)) cc.traits (Ef.traitOf (w.drop 1)).1 t1 t8
       (have fct := Fj @el (Fj @e2 (Fj @e4 (Fj @e50 (Fj @e51 (Fj @e52 (Fj @l2 (Fj @a4 (Fj @r3 (Fj @k3 (Fj @m4 (Fj @hq (Fj fsAstr (Fj @w1 (Fj @ov_7 (Fj @cP (Fj @cells_len (Fj @Nat.mul_one (Fj @Nat.zero_mul @Int.toNat_zero)))))))))))))))))); refine GOD ?_; clear fct)
       refine R_any (by simp only [CR.wanted]) (slcS_lo (k := .i64) (s := w) (l := 1) (by simp only [CA.ev, fsTm, Nat.reduceBEq, Nat.reduceLT, el]) (by simp only [CA.ev]; rfl) hw1) (by simp only [put, List.set_cons_succ, List.set_cons_zero]; (first | done | with_reducible rfl)) ?_
       (have fct := Fj @el (Fj @e2 (Fj @e4 (Fj @e50 (Fj @e51 (Fj @e52 (Fj @cT (Fj @cH (Fj @r3 (Fj @k3 (Fj @cells_six (Fj @w1 (Fj @ov_6 (Fj @cells_len (Fj @Nat.mul_one (Fj @Nat.zero_mul @Int.toNat_zero))))))))))))))); refine GOD ?_; clear fct)
       exact fin _ _ (by simp only [List.length_set, el]) (by simp only [fsTm, Nat.reduceBEq, Nat.reduceLT, e2]) (by simp only [fsTm, Nat.reduceBEq, Nat.reduceLT, e4]) (by simp only [fsTm, Nat.reduceBEq, Nat.reduceLT, e50]) (by simp only [fsTm, Nat.reduceBEq, Nat.reduceLT, e51]) (by simp only [fsTm, Nat.reduceBEq, Nat.reduceLT, el]) (by rw [hs]; exact S.store _)
     | false =>
       have hs : stepC atoiV cc w = { cc with power := atoiV (cutA w [47]), health := atoiV (cutB w [47]) } := by unfold stepC tokenT; rw [if_neg (of_decide_eq_false hq), if_neg (of_decide_eq_false hp)]
       rw [hp] at cP
       have cC := cut_spec (orc := orc) (sub _ (by decide)) hC w [47] (by omega) (by simp) S.gr
       have q1 := hC.atoi (cutA w [47]) H3 S.gr (by have := cutA_len w [47]; omega)
       have q2 := fun v => hC.atoi (cutB w [47]) (H3.set (h.n + 1) v) (S.gr.set (by have := S.g0; omega) _) (by have := cutB_len w [47]; omega)
       (have fct := Fj @el (Fj @e2 (Fj @e4 (Fj @e50 (Fj @e51 (Fj @e52 (Fj @l2 (Fj @a4 (Fj @r3 (Fj @k3 (Fj @m4 (Fj @hq (Fj fsAstr (Fj @w1 (Fj @ov_4 (Fj @ov_5 (Fj @cP (Fj @cC (Fj @q1 (Fj @q2 (Fj @cells_len (Fj @Nat.mul_one (Fj @Nat.zero_mul @Int.toNat_zero)))))))))))))))))))))); refine GOD ?_; clear fct)
       exact fin _ _ (by simp only [List.length_set, el]) (by simp only [fsTm, Nat.reduceBEq, Nat.reduceLT, e2]) (by simp only [fsTm, Nat.reduceBEq, Nat.reduceLT, e4]) (by simp only [fsTm, Nat.reduceBEq, Nat.reduceLT, e50]) (by simp only [fsTm, Nat.reduceBEq, Nat.reduceLT, e51]) (by simp only [fsTm, Nat.reduceBEq, Nat.reduceLT, el]) (by rw [hs]; exact (S.store { cc with power := atoiV (cutA w [47]) }).store _)
  case neg =>
   obtain rfl : i = (L.drop 4).length := by omega
   have l2 : decide (((L.drop 4).length : Int) < ((L.drop 4).length : Int)) = false := by rw [decide_eq_false_iff_not]; omega
   rw [List.take_length] at S k3
   have rs := S.res
   have hn1 := S.n
   generalize (L.drop 4).foldl (stepC atoiV) ⟨x0, (sf x1).1, kd x2 3, atoiV x3, 0, 0, 0, false⟩ = cc at *
   (have fct := Fj @el (Fj @e2 (Fj @e4 (Fj @e50 (Fj @e51 (Fj @e52 (Fj @l2 (Fj @k3 (Fj @rs (Fj @cells_len (Fj @cells_take (Fj @cells_one (Fj @ov_9 (Fj @Nat.mul_one (Fj @Nat.zero_mul @Int.toNat_zero)))))))))))))); refine GOD ?_; clear fct)
   (have fct := Fj @el (Fj @e2 (Fj @cells_len (Fj @cells_take (Fj @cells_one (Fj @Nat.zero_le @Nat.zero_add))))); refine A_end ?_; clear fct; try exact trivial)
   exact ⟨S.low, rfl⟩
theorem read_few (ho : orc 70 = none) (L : List (List UInt8)) (b : Nat) (h4 : L.length < 4) (h : AH) (cap : Cap) :
    acall orc T 70 [.slice (some (b, 0)) L.length cap] h = some (.tuple [.agg (zeroC.cells nilV), .bool false], h) := by
 refine acall_sym ho tbl70 ?_
 have l1 : decide ((L.length : Int) < 4) = true := by rw [decide_eq_true_eq]; omega
 refine GD ?_
 (have fct := @l1; refine GOD ?_; clear fct)
 (have fct := trivial; refine A_end ?_; clear fct; try exact trivial)
 exact ⟨rfl, rfl⟩
end Go.Proofs.Cards
