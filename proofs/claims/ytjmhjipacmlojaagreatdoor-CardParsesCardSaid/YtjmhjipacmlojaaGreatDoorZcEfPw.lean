/- The parser's walk: what it reads, and that it holds it against the text. -/
import Derived.Test.YtjmhjipacmlojaaGreatDoorFz05
import Derived.Test.YtjmhjipacmlojaaGreatDoorZcEfParse
import Derived.Test.YtjmhjipacmlojaaGreatDoorFz05
namespace Go.Proofs.Ef
set_option maxRecDepth 100000
set_option maxHeartbeats 32000000
open Go Go.Fs
set_option linter.unusedSimpArgs false
set_option linter.unusedVariables false
variable {orc : Orc}
def cf20 : CF := ⟨121, [(.cell 2 (some 8)), (.tmp 3)], (.seq (.region [Zo 2 (.alloc [(.int .u8 0), (.int .u8 0), (.int .u8 0), (.int .i64 0), (.int .u8 0), (.int .u8 0), (.int .u8 0), (.str [])]), Zo 3 (.mv (.c (.int .i64 0)))]) (.seq (.seq (.region [Zm 17 0, Zo 18 (.lenS (.t 17)), Zb 19 .gtr (.t 18) (.c (.int .i64 80))]) (.cond (.t 19) (.seq (.region [Zo 20 (.build [(.int .u8 0), (.int .u8 0), (.int .u8 0), (.int .i64 0), (.int .u8 0), (.int .u8 0), (.int .u8 0), (.str [])] []), Zn (.store 8 (.t 2) (.t 20)), Zo 3 (.mv (.c (.int .i64 3)))]) .ret) .skip)) (.seq (.region [Zm 21 0, Zo 22 (.call (.f 50) [(.t 21), (.c (.str [32]))]), Zo 4 (.alloc [(.slice none 0 (.exact 0))]), Zn (.store 1 (.t 4) (.t 22))]) (.seq (.seq (.region [Zl 23 4, Zo 24 (.lenV (.t 23)), Zb 25 .lss (.t 24) (.c (.int .i64 3))]) (.cond (.t 25) (.seq (.region [Zo 26 (.build [(.int .u8 0), (.int .u8 0), (.int .u8 0), (.int .i64 0), (.int .u8 0), (.int .u8 0), (.int .u8 0), (.str [])] []), Zn (.store 8 (.t 2) (.t 26)), Zo 3 (.mv (.c (.int .i64 150)))]) .ret) .skip)) (.seq (.region [Zo 27 (.call (.f 51) []), Zo 5 (.alloc [(.slice none 0 (.exact 0)), (.slice none 0 (.exact 0)), (.slice none 0 (.exact 0))]), Zn (.store 3 (.t 5) (.t 27))]) (.seq (.regionD [⟨Zo 28 (.iaddrA 3 1 (.t 5) (.c (.int .i64 0))), 0, 1, false⟩, ⟨Zl 29 28, 0, 1, false⟩, ⟨Zl 30 4, 0, 1, false⟩, ⟨Zo 31 (.iaddrS 1 (.t 30) (.c (.int .i64 0))), 0, 1, false⟩, ⟨Zl 32 31, 0, 1, false⟩, ⟨Zo 33 (.call (.f 52) [(.t 29), (.t 32)]), 0, 1, true⟩, ⟨Zb 34 .add (.t 33) (.c (.int .i64 1)), 0, 1, false⟩, ⟨Zo 35 (.toInt .u8 (.t 34)), 0, 1, false⟩, ⟨Zo 36 (.iaddrA 3 1 (.t 5) (.c (.int .i64 1))), 0, 1, false⟩, ⟨Zl 37 36, 0, 1, false⟩, ⟨Zl 38 4, 0, 1, false⟩, ⟨Zo 39 (.iaddrS 1 (.t 38) (.c (.int .i64 1))), 0, 1, false⟩, ⟨Zl 40 39, 0, 1, false⟩, ⟨Zo 41 (.call (.f 52) [(.t 37), (.t 40)]), 0, 1, true⟩, ⟨Zb 42 .add (.t 41) (.c (.int .i64 1)), 0, 1, false⟩, ⟨Zo 43 (.toInt .u8 (.t 42)), 0, 1, false⟩, ⟨Zo 44 (.iaddrA 3 1 (.t 5) (.c (.int .i64 2))), 0, 1, false⟩, ⟨Zl 45 44, 0, 1, false⟩, ⟨Zl 46 4, 0, 1, false⟩, ⟨Zo 47 (.iaddrS 1 (.t 46) (.c (.int .i64 2))), 0, 1, false⟩, ⟨Zl 48 47, 0, 1, false⟩, ⟨Zo 49 (.call (.f 52) [(.t 45), (.t 48)]), 0, 1, true⟩, ⟨Zb 50 .add (.t 49) (.c (.int .i64 1)), 0, 1, false⟩, ⟨Zo 51 (.toInt .u8 (.t 50)), 0, 1, false⟩, ⟨Zo 52 (.build [(.int .u8 0), (.int .u8 0), (.int .u8 0), (.int .i64 0), (.int .u8 0), (.int .u8 0), (.int .u8 0), (.str [])] [(0, (1, (.t 35))), (1, (1, (.t 43))), (2, (1, (.t 51)))]), 0, 1, false⟩, ⟨Zo 6 (.alloc [(.int .u8 0), (.int .u8 0), (.int .u8 0), (.int .i64 0), (.int .u8 0), (.int .u8 0), (.int .u8 0), (.str [])]), 0, 1, false⟩, ⟨Zn (.store 8 (.t 6) (.t 52)), 1, 2, false⟩]) (.seq (.region [Zl 53 4, Zo 54 (.slcV 1 (.t 53) (some (.c (.int .i64 3))) none none), Zn (.store 1 (.t 4) (.t 54))]) (.seq (.region [Zo 55 (.clo (.func 53) [] [(.t 4)]), Zm 7 55]) (.seq (.region [Zf 57 1 6, Zl 58 57, Zf 59 2 6, Zl 60 59, Zo 61 (.call (.f 54) [(.t 58), (.t 60)]), Zm 56 61, Ze 62 0 56, Ze 63 1 56, Ze 64 2 56, Ze 65 3 56, Ze 66 4 56, Zm 8 62, Zm 9 63, Zm 10 64, Zm 11 65, Zm 12 66]) (.seq (.region [Zm 68 7, Zm 69 8, Zo 70 (.call (.t 68) [(.t 69)]), Zo 71 (.call (.f 55) [(.t 70)]), Zm 67 71, Ze 72 0 67, Ze 73 1 67, Zf 74 3 6, Zn (.store 1 (.t 74) (.t 72))]) (.seq (.region [Zm 76 7, Zm 77 9, Zo 78 (.call (.t 76) [(.t 77)]), Zo 79 (.call (.f 56) [(.t 78)]), Zm 75 79, Ze 80 0 75, Ze 81 1 75, Zf 82 4 6, Zn (.store 1 (.t 82) (.t 80))]) (.seq (.region [Zm 84 7, Zm 85 10, Zo 86 (.call (.t 84) [(.t 85)]), Zo 87 (.call (.f 57) [(.t 86)]), Zm 83 87, Ze 88 0 83, Ze 89 1 83, Zf 90 5 6, Zn (.store 1 (.t 90) (.t 88))]) (.seq (.region [Zm 92 7, Zm 93 11, Zo 94 (.call (.t 92) [(.t 93)]), Zo 95 (.call (.f 55) [(.t 94)]), Zm 91 95, Ze 96 0 91, Ze 97 1 91, Zm 13 96, Zm 14 97]) (.seq (.region [Zm 98 13, Zo 99 (.maxI (.t 98) (.c (.int .i64 0))), Zo 100 (.minI (.t 99) (.c (.int .i64 9))), Zo 101 (.toInt .u8 (.t 100)), Zf 102 6 6, Zn (.store 1 (.t 102) (.t 101))]) (.seq (.region [Zm 103 7, Zm 104 12, Zo 105 (.call (.t 103) [(.t 104)]), Zf 106 7 6, Zn (.store 1 (.t 106) (.t 105))]) (.seq (.seq (.region [Zo 108 (.load (some 8) (.t 6)), Zo 109 (.call (.f 23) [(.t 108)]), Zm 107 109, Ze 110 0 107, Ze 111 1 107, Zm 15 110, Zm 16 111]) (.seq (.region [Zm 112 16, Zb 113 .neq (.t 112) (.c (.int .i64 0)), Zm 114 113, Zg 115 (.mv (.t 15)) 114 false, Zg 116 (.mv (.t 0)) 114 false, Zg 117 (.bin .neq .other (.t 115) (.t 116)) 114 false, Zo 118 (.pick (.t 114) (.c (.bool true)) (.t 117))]) (.cond (.t 118) (.seq (.region [Zo 119 (.build [(.int .u8 0), (.int .u8 0), (.int .u8 0), (.int .i64 0), (.int .u8 0), (.int .u8 0), (.int .u8 0), (.str [])] []), Zn (.store 8 (.t 2) (.t 119)), Zo 3 (.mv (.c (.int .i64 150)))]) .ret) .skip))) (.seq (.region [Zo 120 (.load (some 8) (.t 6)), Zn (.store 8 (.t 2) (.t 120)), Zo 3 (.mv (.c (.int .i64 0)))]) .ret)))))))))))))))))⟩
theorem tbl20 : tbl Tryz.prog 20 = some cf20 := by kernel_rfl
structure PTold (orc : Orc) (h0 : AH) (pieces : List UInt8 → List (List UInt8)) (atoiV : List UInt8 → Int) (sf : List UInt8 → Int × Bool) : Prop where
 split : ∀ (s : List UInt8) (h : AH), Grown h0 h → s.length ≤ 80 → acall orc T 50 [.str s, .str [32]] h = some (.slice (some (h.n, 0)) (pieces s).length (.exact (pieces s).length), h.push (.cells ((pieces s).map AV.str) false))
 len : ∀ s : List UInt8, s.length ≤ 80 → (pieces s).length ≤ 100 ∧ ∀ x ∈ pieces s, x.length ≤ 80
 atoi : ∀ (s : List UInt8) (h : AH), Grown h0 h → s.length ≤ 80 → acall orc T 55 [.str s] h = some (.tuple [.int .i64 (atoiV s), .junk true], h)
 suit : ∀ (s : List UInt8) (h : AH), acall orc T 56 [.str s] h = some (.tuple [.int .u8 (sf s).1, .bool (sf s).2], h)
def rW (L : List (List UInt8)) : Int := posI whenL (L.getD 0 []) + 1
def rV (L : List (List UInt8)) : Int := posI verbL (L.getD 1 []) + 1
def rM (L : List (List UInt8)) : Int := posI whomL (L.getD 2 []) + 1
def q1 (v m : Int) (R : List (List UInt8)) : List (List UInt8) := nextR (uC v) R
def q2 (v m : Int) (R : List (List UInt8)) : List (List UInt8) := nextR (uS v m) (q1 v m R)
def q3 (v m : Int) (R : List (List UInt8)) : List (List UInt8) := nextR (uT v m) (q2 v m R)
def q4 (v m : Int) (R : List (List UInt8)) : List (List UInt8) := nextR (uM v) (q3 v m R)
section
variable (atoiV : List UInt8 → Int) (sf : List UInt8 → Int × Bool)
def rC (v m : Int) (R : List (List UInt8)) : Int := atoiV (nextW (uC v) R)
def rS (v m : Int) (R : List (List UInt8)) : Int := (sf (nextW (uS v m) (q1 v m R))).1
def rT (v m : Int) (R : List (List UInt8)) : Int := (traitOf (nextW (uT v m) (q2 v m R))).1
def clamp (n : Int) : Int := if (if n < 0 then 0 else n) < 9 then (if n < 0 then 0 else n) else 9
def rK (v m : Int) (R : List (List UInt8)) : Int := clamp (atoiV (nextW (uM v) (q3 v m R)))
def rN (v m : Int) (R : List (List UInt8)) : List UInt8 := nextW (uN v) (q4 v m R)
end
def zeroP : List AV := part 0 0 0 0 0 0 0 []
theorem posI_range (L : List (List UInt8)) (x : List UInt8) : -1 ≤ posI L x ∧ posI L x < L.length := by
 unfold posI
 split
 · rename_i i hi
   have := (List.findIdx?_eq_some_iff_getElem.1 hi).1
   omega
 · omega
theorem wrap_i64i {n : Int} (h1 : -1 ≤ n) (h2 : n ≤ 1000) : IntKind.wrap .i64 (n + 1) = n + 1 := by
 obtain ⟨k, hk⟩ := Int.eq_ofNat_of_zero_le (show 0 ≤ n + 1 by omega)
 rw [hk]; exact wrap_i64 (by omega) (by omega)
theorem wrap_u8i {n : Int} (h1 : -1 ≤ n) (h2 : n ≤ 100) : IntKind.wrap .u8 (n + 1) = n + 1 := by
 have e3 : IntKind.bits .u8 = 8 := rfl
 have e4 : IntKind.signed .u8 = false := rfl
 have hp : (2 : Int) ^ 8 = 256 := by decide
 unfold IntKind.wrap
 simp only [e3, e4, Bool.false_and, hp, Bool.false_eq_true, if_false]
 omega
theorem wrap_clamp (n : Int) : IntKind.wrap .u8 (clamp n) = clamp n := by
 have hb : 0 ≤ clamp n ∧ clamp n ≤ 9 := by unfold clamp; (repeat' split) <;> omega
 generalize clamp n = k at *
 have e3 : IntKind.bits .u8 = 8 := rfl
 have e4 : IntKind.signed .u8 = false := rfl
 have hp : (2 : Int) ^ 8 = 256 := by decide
 unfold IntKind.wrap
 simp only [e3, e4, Bool.false_and, hp, Bool.false_eq_true, if_false]
 omega
theorem slcVV_three {b n : Nat} (hn : 3 ≤ n) (tm : List AV) (h : AH) : slcVV tm 1 (.slice (some (b, 0)) n (.exact n)) (some (.c (.int .i64 3))) none none h = some (.slice (some (b, if n = 3 then 0 else 3)) (n - 3) (.exact (n - 3)), h) := by
 have hb : bounds3 tm n n (some (.c (.int .i64 3))) none none = some (3, n, n) := by
  unfold bounds3
  simp only [optBound, CA.ev, bound]
  simp [highOf]
  omega
 unfold slcVV
 simp only [quietRun, CA.ev, hb, Option.map_some]
 by_cases h3 : n = 3
 · subst h3; simp
 · simp [h3]
def maxV (x y : AV) (h : AH) : Option (AV × AH) := match x, y with
 | .int k a, .int _ b => some (.int k (if a < b then b else a), h)
 | _, _ => none
def minV (x y : AV) (h : AH) : Option (AV × AH) := match x, y with
 | .int k a, .int _ b => some (.int k (if b < a then b else a), h)
 | _, _ => none
theorem maxV_int (k k' : IntKind) (a b : Int) (h : AH) : maxV (.int k a) (.int k' b) h = some (.int k (if a < b then b else a), h) := rfl
theorem minV_int (k k' : IntKind) (a b : Int) (h : AH) : minV (.int k a) (.int k' b) h = some (.int k (if b < a then b else a), h) := rfl
theorem op_max2 {call : Rec} {tm : List AV} {h : AH} (x y : CA) : runOp call (.maxI x y) tm h = maxV (x.ev tm) (y.ev tm) h := by
 simp only [runOp, CO.quiet, quietRun, if_true, maxV]
 generalize x.ev tm = a
 generalize y.ev tm = b
 cases a <;> first | rfl | (cases b <;> rfl)
theorem op_min2 {call : Rec} {tm : List AV} {h : AH} (x y : CA) : runOp call (.minI x y) tm h = minV (x.ev tm) (y.ev tm) h := by
 simp only [runOp, CO.quiet, quietRun, if_true, minV]
 generalize x.ev tm = a
 generalize y.ev tm = b
 cases a <;> first | rfl | (cases b <;> rfl)
theorem op_clo {call : Rec} {tm : List AV} {h : AH} (fn : Fn) (first captured : List CA) : runOp call (.clo fn first captured) tm h = some (.func fn (first.map (CA.ev tm)) (captured.map (CA.ev tm)), h) := rfl
theorem callV_func {call : Rec} {h : AH} (g : Nat) (first captured args : List AV) : callV call (.func (.func g) first captured) args h = call g (first ++ args ++ captured) h := rfl
theorem clamp_eq (n : Int) : (if 9 < (if n < 0 then 0 else n) then 9 else (if n < 0 then 0 else n)) = clamp n := by
 unfold clamp
 (repeat' split) <;> omega
structure PS (h0 : AH) (N pb qb : Nat) (P : List AV) (R : List (List UInt8)) (h : AH) : Prop where
 gr : Grown h0 h
 g0 : h0.n ≤ N
 low : N ≤ h.low
 rest : Rest N h pb R
 part : h.get qb = some (.cells P false)
 res : h.get N = some (.cells zeroP false)
 pn : N < pb ∧ pb < qb ∧ qb < h.n
 len : R.length ≤ 100 ∧ ∀ x ∈ R, x.length ≤ 80
theorem nextW_len {u : Bool} {R : List (List UInt8)} (h : R.length ≤ 100 ∧ ∀ x ∈ R, x.length ≤ 80) : (nextW u R).length ≤ 80 := by
 unfold nextW
 split
 · cases R with
   | nil => simp
   | cons a R => exact h.2 a (by simp)
 · simp
theorem nextR_len {u : Bool} {R : List (List UInt8)} (h : R.length ≤ 100 ∧ ∀ x ∈ R, x.length ≤ 80) : (nextR u R).length ≤ 100 ∧ ∀ x ∈ nextR u R, x.length ≤ 80 := by
 unfold nextR
 split
 · exact ⟨by have := h.1; simp; omega, fun x hx => h.2 x (List.mem_of_mem_tail hx)⟩
 · exact h
theorem PS.next {h0 h : AH} {N pb qb : Nat} {P : List AV} {R : List (List UInt8)} (I : PS h0 N pb qb P R h) (ho : orc 53 = none) (u : Bool) :
    ∃ v1 h1, acall orc T 53 [.bool u, .ptr (some (pb, 0))] h = some (v1, h1) ∧ (v1 = .str (nextW u R) ∧ PS h0 N pb qb P (nextR u R) h1) := by
 obtain ⟨v1, h1, e, e1, e2, e3, e4, e5⟩ := next_spec N ho u R pb (by have := I.len.1; omega) I.rest (by have := I.pn; omega)
 have hp := I.pn
 have hg := I.g0
 refine ⟨v1, h1, e, e1, ⟨?_, fun b hb => ?_⟩, I.g0, e5 I.low (by omega), e2, ?_, ?_, by rw [e3]; exact hp, nextR_len I.len⟩
 · rw [e3]; exact I.gr.1
 · rw [e4 b (by omega)]; exact I.gr.2 b hb
 · rw [e4 qb (by omega)]; exact I.part
 · rw [e4 N (by omega)]; exact I.res
theorem PS.store {h0 h : AH} {N pb qb : Nat} {P : List AV} {R : List (List UInt8)} (I : PS h0 N pb qb P R h) (P' : List AV) : PS h0 N pb qb P' R (h.set qb (.cells P' false)) := by
 have hp := I.pn
 have hg := I.g0
 obtain ⟨b, off, all, ro, r1, r2, r3, r4⟩ := I.rest
 refine ⟨I.gr.set (by omega) _, I.g0, ?_, ⟨b, off, all, ro, ?_, r2, ?_, r4⟩, Hp.get_set_self _ _ _, ?_, by simpa using hp, I.len⟩
 · have := I.low; simp; omega
 · rw [Hp.get_set_ne _ _ _ _ (by omega)]; exact r1
 · rw [Hp.get_set_ne _ _ _ _ (by omega)]; exact r3
 · rw [Hp.get_set_ne _ _ _ _ (by omega)]; exact I.res
theorem part_1 (w v m c s t k : Int) (nm : List UInt8) : (part w v m c s t k nm)[1]? = some (.int .u8 v) := rfl
theorem part_2 (w v m c s t k : Int) (nm : List UInt8) : (part w v m c s t k nm)[2]? = some (.int .u8 m) := rfl
theorem over_3 (w v m c s t k : Int) (nm : List UInt8) (x : Int) : Fs.over (part w v m c s t k nm) 3 [.int .i64 x] = part w v m x s t k nm := rfl
theorem over_4 (w v m c s t k : Int) (nm : List UInt8) (x : Int) : Fs.over (part w v m c s t k nm) 4 [.int .u8 x] = part w v m c x t k nm := rfl
theorem over_5 (w v m c s t k : Int) (nm : List UInt8) (x : Int) : Fs.over (part w v m c s t k nm) 5 [.int .u8 x] = part w v m c s x k nm := rfl
theorem over_6 (w v m c s t k : Int) (nm : List UInt8) (x : Int) : Fs.over (part w v m c s t k nm) 6 [.int .u8 x] = part w v m c s t x nm := rfl
theorem over_7 (w v m c s t k : Int) (nm x : List UInt8) : Fs.over (part w v m c s t k nm) 7 [.str x] = part w v m c s t k x := rfl
theorem over_8 (w v m c s t k : Int) (nm : List UInt8) (w' v' m' c' s' t' k' : Int) (nm' : List UInt8) : Fs.over (part w v m c s t k nm) 0 (part w' v' m' c' s' t' k' nm') = part w' v' m' c' s' t' k' nm' := rfl
theorem part_len (w v m c s t k : Int) (nm : List UInt8) : (part w v m c s t k nm).length = 8 := rfl
theorem part_one (w v m c s t k : Int) (nm : List UInt8) : (part w v m c s t k nm).all AV.one = true := rfl
theorem part_take (w v m c s t k : Int) (nm : List UInt8) : (part w v m c s t k nm).take 8 = part w v m c s t k nm := rfl
theorem part_under (n : Nat) (w v m c s t k : Int) (nm : List UInt8) : AV.unders n (part w v m c s t k nm) = true := rfl
section
variable (atoiV : List UInt8 → Int) (sf : List UInt8 → Int × Bool)
def okP (v m : Int) (w : Int) (R : List (List UInt8)) (s : List UInt8) : Bool :=
 decide (chk w v m (rC atoiV v m R) (rS sf v m R) (rT v m R) (rK atoiV v m R) (rN v m R) = 0 ∧ txtP w v m (rC atoiV v m R) (rS sf v m R) (rT v m R) (rK atoiV v m R) (rN v m R) = s)
def partR (v m : Int) (w : Int) (R : List (List UInt8)) : List AV := part w v m (rC atoiV v m R) (rS sf v m R) (rT v m R) (rK atoiV v m R) (rN v m R)
end
theorem parse_long (ho : orc 20 = none) (s : List UInt8) (hlen : ¬ s.length ≤ 80) {h : AH} : acall orc T 20 [.str s] h = some (.tuple [.agg zeroP, .int .i64 3], h) := by
 refine acall_sym ho tbl20 ?_
 have l1 : decide ((80 : Int) < (s.length : Int)) = true := by rw [decide_eq_true_eq]; omega
 clear hlen
 unfold zeroP part
 refine GD ?_
 (have fct := Fj @l1 @Fs.over.eq_1; refine GO ?_; clear fct)
 (have fct := trivial; refine A_end ?_; clear fct; try exact trivial)
theorem parse_few {h0 : AH} {pieces : List UInt8 → List (List UInt8)} {atoiV : List UInt8 → Int} {sf : List UInt8 → Int × Bool} (ho : orc 20 = none) (hP : PTold orc h0 pieces atoiV sf) (s : List UInt8) (hlen : s.length ≤ 80) (h3 : (pieces s).length < 3) {h : AH} (hg : Grown h0 h) : acall orc T 20 [.str s] h = some (.tuple [.agg zeroP, .int .i64 150], h) := by
 refine acall_sym ho tbl20 ?_
 have l1 : decide ((80 : Int) < (s.length : Int)) = false := by rw [decide_eq_false_iff_not]; omega
 have sp := hP.split s
 generalize pieces s = L at *
 have l2 : decide ((L.length : Int) < 3) = true := by rw [decide_eq_true_eq]; omega
 have z1 : ∀ y : AV, Fs.over [AV.slice none 0 (.exact 0)] 0 [y] = [y] := fun _ => rfl
 have z2 : (h.n = h.n + 1) = False := by simp
 clear hP h3
 unfold zeroP part
 refine GD ?_
 (have fct := @l1; refine GO ?_; clear fct)
 refine R_eq (by simp (maxDischargeDepth := 12) only [opsB, Nat.reduceEqDiff, Nat.reduceBEq, Nat.reduceBNe, Int.reduceBEq, Int.reduceBNe, Int.reduceLT, Int.reduceLE, Int.reduceEq, AV.one, AV.cells, CA.ev, abin, aint, aun, isShift, readVar, readCell, readCells, writeCells, fillA, reduceIte, Nat.reduceAdd, Nat.reduceSub, Nat.reduceLT, Nat.reduceLeDiff, resAll, resOne, AV.under, AV.unders, cut]; (first | done | with_reducible rfl)) (sp _ ((hg.low _).push _) hlen) (by simp only [put, List.set_cons_succ, List.set_cons_zero]; (first | done | with_reducible rfl)) ?_
 (have fct := Fj @l1 (Fj @l2 (Fj @z1 (Fj @z2 @Fs.over.eq_1))); refine GO ?_; clear fct)
 (have fct := trivial; refine A_end ?_; clear fct; try exact trivial)
theorem parse_read {h0 : AH} {pieces : List UInt8 → List (List UInt8)} {atoiV : List UInt8 → Int} {sf : List UInt8 → Int × Bool} (ho : ∀ f, f ∈ [20, 52, 53, 57, 23, 51, 24, 54, 61, 62, 63, 64, 65, 66, 67, 68, 106, 107, 108] → orc f = none)
    (ht : Trims orc) (hF : Flds orc h0) (hJ : Joins orc) (hT : Told orc h0) (hP : PTold orc h0 pieces atoiV sf) (s : List UInt8) (hlen : s.length ≤ 80) (L : List (List UInt8)) (hL : pieces s = L) (h3 : 3 ≤ L.length) {h : AH} (hg : Grown h0 h) :
    acall orc T 20 [.str s] h = some (.tuple [.agg (if okP atoiV sf (rV L) (rM L) (rW L) (L.drop 3) s = true then partR atoiV sf (rV L) (rM L) (rW L) (L.drop 3) else zeroP), .int .i64 (if okP atoiV sf (rV L) (rM L) (rW L) (L.drop 3) s = true then 0 else 150)], h) := by
 obtain ⟨hl1, hl2⟩ := hP.len s hlen
 have sp := hP.split s
 rw [hL] at hl1 hl2 sp
 clear hL
 have l1 : decide ((80 : Int) < (s.length : Int)) = false := by rw [decide_eq_false_iff_not]; omega
 have l2 : decide ((L.length : Int) < 3) = false := by rw [decide_eq_false_iff_not]; omega
 have z1 : ∀ y : AV, Fs.over [AV.slice none 0 (.exact 0)] 0 [y] = [y] := fun _ => rfl
 have z2 : (h.n = h.n + 1) = False := by simp
 obtain ⟨x0, hx0⟩ : ∃ x, L[0]? = some x := ⟨_, List.getElem?_eq_getElem (show 0 < L.length by omega)⟩
 obtain ⟨x1, hx1⟩ : ∃ x, L[1]? = some x := ⟨_, List.getElem?_eq_getElem (show 1 < L.length by omega)⟩
 obtain ⟨x2, hx2⟩ : ∃ x, L[2]? = some x := ⟨_, List.getElem?_eq_getElem (show 2 < L.length by omega)⟩
 have m0 : (L.map AV.str)[0]? = some (.str x0) := by rw [List.getElem?_map, hx0]; rfl
 have m1 : (L.map AV.str)[1]? = some (.str x1) := by rw [List.getElem?_map, hx1]; rfl
 have m2 : (L.map AV.str)[2]? = some (.str x2) := by rw [List.getElem?_map, hx2]; rfl
 have i0 := fun (hh : AH) => iaddrV_at (h := hh) (esz := 1) (b := h.n + 1) (o := 0) (len := L.length) (c := .exact L.length) (k := .i64) (n := 0) (by omega) (by omega)
 have i1 := fun (hh : AH) => iaddrV_at (h := hh) (esz := 1) (b := h.n + 1) (o := 0) (len := L.length) (c := .exact L.length) (k := .i64) (n := 1) (by omega) (by omega)
 have i2 := fun (hh : AH) => iaddrV_at (h := hh) (esz := 1) (b := h.n + 1) (o := 0) (len := L.length) (c := .exact L.length) (k := .i64) (n := 2) (by omega) (by omega)
 have s3 := fun (tm : List AV) (hh : AH) => slcVV_three (b := h.n + 1) (n := L.length) h3 tm hh
 have g00 := hg.1
 have eW : rW L = posI whenL x0 + 1 := by unfold rW; rw [List.getD_eq_getElem?_getD, hx0]; rfl
 have eV : rV L = posI verbL x1 + 1 := by unfold rV; rw [List.getD_eq_getElem?_getD, hx1]; rfl
 have eM : rM L = posI whomL x2 + 1 := by unfold rM; rw [List.getD_eq_getElem?_getD, hx2]; rfl
 refine acall_sym (ho _ (by simp)) tbl20 ?_
 refine GD ?_
 (have fct := @l1; refine GO ?_; clear fct)
 refine R_eq (by simp (maxDischargeDepth := 12) only [opsB, Nat.reduceEqDiff, Nat.reduceBEq, Nat.reduceBNe, Int.reduceBEq, Int.reduceBNe, Int.reduceLT, Int.reduceLE, Int.reduceEq, AV.one, AV.cells, CA.ev, abin, aint, aun, isShift, readVar, readCell, readCells, writeCells, fillA, reduceIte, Nat.reduceAdd, Nat.reduceSub, Nat.reduceLT, Nat.reduceLeDiff, resAll, resOne, AV.under, AV.unders, cut]; (first | done | with_reducible rfl)) (sp _ ((hg.low _).push _) hlen) (by simp only [put, List.set_cons_succ, List.set_cons_zero]; (first | done | with_reducible rfl)) ?_
 (have fct := Fj @l1 (Fj @l2 (Fj @z1 @z2)); refine GO ?_; clear fct)
 refine R_ex (by simp (maxDischargeDepth := 12) only [opsB, Nat.reduceEqDiff, Nat.reduceBEq, Nat.reduceBNe, Int.reduceBEq, Int.reduceBNe, Int.reduceLT, Int.reduceLE, Int.reduceEq, AV.one, AV.cells, CA.ev, abin, aint, aun, isShift, readVar, readCell, readCells, writeCells, fillA, reduceIte, Nat.reduceAdd, Nat.reduceSub, Nat.reduceLT, Nat.reduceLeDiff, resAll, resOne, AV.under, AV.unders, cut]; (first | done | with_reducible rfl)) (words_spec h.n (ho _ (by simp)) hF ((((hg.low _).push _).push _).push _ |>.set (k := h.n + 2) (by omega) _)) fun v1 H1 hW => ?_
 obtain ⟨b1, b2, b3, rfl, ⟨g1, g2, g3⟩, ⟨n1, n2, n3⟩, kp⟩ := hW
 refine A_tm ?_
 have g4 := kp.get h.n (by simp; omega)
 have g5 := kp.get (h.n + 1) (by simp)
 have g6 := kp.get (h.n + 2) (by simp)
 simp only [Hp.get_set, Hp.get_push, Hp.n_push, Hp.n_set, Hp.n_withLow, Nat.add_assoc, Nat.reduceAdd, Nat.add_left_cancel_iff, Nat.left_eq_add, Nat.add_eq_left, Nat.reduceEqDiff, if_true, if_false, reduceIte] at g4 g5 g6
 have lowH : h.n ≤ H1.low := kp.low (by simp; omega) (by simp)
 have nH : h.n + 2 < H1.n := by have := kp.n; simp at this; omega
 have grH : Grown h0 H1 := Grown.kp ((((hg.low _).push _).push _).push _ |>.set (k := h.n + 2) (by omega) _) kp
 clear kp
 have c1 := fun (hh : AH) (hb : hh.get b1 = some (.cells (whenL.map AV.str) false)) => index_spec (orc := orc) (ho _ (by simp)) whenL x0 b1 (.exact 6) false (by decide) hb
 have c2 := fun (hh : AH) (hb : hh.get b2 = some (.cells (verbL.map AV.str) false)) => index_spec (orc := orc) (ho _ (by simp)) verbL x1 b2 (.exact 19) false (by decide) hb
 have c3 := fun (hh : AH) (hb : hh.get b3 = some (.cells (whomL.map AV.str) false)) => index_spec (orc := orc) (ho _ (by simp)) whomL x2 b3 (.exact 10) false (by decide) hb
 simp only [show whenL.length = 6 from rfl] at c1
 simp only [show verbL.length = 19 from rfl] at c2
 simp only [show whomL.length = 10 from rfl] at c3
 have t1 := posI_range whenL x0
 have t2 := posI_range verbL x1
 have t3 := posI_range whomL x2
 have t4 : whenL.length = 6 := rfl
 have t5 : verbL.length = 19 := rfl
 have t6 : whomL.length = 10 := rfl
 have w1 := wrap_i64i (n := posI whenL x0) (by omega) (by omega)
 have w2 := wrap_i64i (n := posI verbL x1) (by omega) (by omega)
 have w3 := wrap_i64i (n := posI whomL x2) (by omega) (by omega)
 have w4 := wrap_u8i (n := posI whenL x0) (by omega) (by omega)
 have w5 := wrap_u8i (n := posI verbL x1) (by omega) (by omega)
 have w6 := wrap_u8i (n := posI whomL x2) (by omega) (by omega)
 have y1 : (b1 = H1.n) = False := by simp; omega
 have y2 : (b2 = H1.n) = False := by simp; omega
 have y3 : (b3 = H1.n) = False := by simp; omega
 have y4 : (h.n = H1.n) = False := by simp; omega
 have y5 : (h.n + 1 = H1.n) = False := by simp; omega
 have y6 : (h.n + 2 = H1.n) = False := by simp; omega
 have y7 : (b1 = H1.n + 1) = False := by simp; omega
 have y8 : (b2 = H1.n + 1) = False := by simp; omega
 have y9 : (b3 = H1.n + 1) = False := by simp; omega
 have y10 : (h.n = H1.n + 1) = False := by simp; omega
 have y11 : (h.n + 1 = H1.n + 1) = False := by simp; omega
 have y12 : (h.n + 2 = H1.n + 1) = False := by simp; omega
 have o3 : ∀ a b c d e f : AV, Fs.over [a, b, c] 0 [d, e, f] = [d, e, f] := fun _ _ _ _ _ _ => rfl
 have p0 : ∀ a b c d e f g i y : AV, Fs.over [a, b, c, d, e, f, g, i] 0 [y] = [y, b, c, d, e, f, g, i] := fun _ _ _ _ _ _ _ _ _ => rfl
 have p1 : ∀ a b c d e f g i y : AV, Fs.over [a, b, c, d, e, f, g, i] 1 [y] = [a, y, c, d, e, f, g, i] := fun _ _ _ _ _ _ _ _ _ => rfl
 have p2 : ∀ a b c d e f g i y : AV, Fs.over [a, b, c, d, e, f, g, i] 2 [y] = [a, b, y, d, e, f, g, i] := fun _ _ _ _ _ _ _ _ _ => rfl
 have p8 : ∀ a b c d e f g i a' b' c' d' e' f' g' i' : AV, Fs.over [a, b, c, d, e, f, g, i] 0 [a', b', c', d', e', f', g', i'] = [a', b', c', d', e', f', g', i'] := fun _ _ _ _ _ _ _ _ _ _ _ _ _ _ _ _ => rfl
 (have fct := Fj @op_iaddrA (Fj @iaddrA0 (Fj @iaddrA1 (Fj @iaddrA2 (Fj @i0 (Fj @i1 (Fj @i2 (Fj @m0 (Fj @m1 (Fj @m2 (Fj @g1 (Fj @g2 (Fj @g3 (Fj @g4 (Fj @g5 (Fj @g6 (Fj @y1 (Fj @y2 (Fj @y3 (Fj @y4 (Fj @y5 (Fj @y6 (Fj @y7 (Fj @y8 (Fj @y9 (Fj @y10 (Fj @y11 (Fj @y12 (Fj @c1 (Fj @c2 (Fj @c3 (Fj @w1 (Fj @w2 (Fj @w3 (Fj @w4 (Fj @w5 (Fj @w6 (Fj @z1 (Fj @s3 (Fj @op_slcV (Fj @Nat.mul_one (Fj @Nat.zero_mul (Fj @Int.toNat_zero (Fj @Int.toNat_one (Fj @o3 (Fj @p0 (Fj @p1 (Fj @p2 (Fj @p8 (Fj @op_clo @still_ex))))))))))))))))))))))))))))))))))))))))))))))))); refine GOD ?_; clear fct)
 have eR : (L.drop 3).length = L.length - 3 := List.length_drop ..
 refine R_heap (PS h0 h.n (h.n + 2) (H1.n + 1) (part (posI whenL x0 + 1) (posI verbL x1 + 1) (posI whomL x2 + 1) 0 0 0 0 []) (L.drop 3)) ?_ (fun H2 I2 => ?_)
 · refine ⟨?_, g00, ?_, ⟨h.n + 1, if L.length = 3 then 0 else 3, L, false, ?_, ⟨by omega, by omega⟩, ?_, fun hne => ?_⟩, ?_, ?_, ⟨by omega, by omega, ?_⟩, by rw [eR]; omega, fun x hx => hl2 x (List.mem_of_mem_drop hx)⟩
   · exact ((((grH.push _).set (by omega) _).push _).set (by omega) _).set (by omega) _
   · simp only [Hp.low_set, Hp.low_push]; omega
   · rw [eR]; exact Hp.get_set_self _ _ _
   · rw [Hp.get_set_ne _ _ _ _ (by omega), Hp.get_set_ne _ _ _ _ (by omega), Hp.get_push_ne _ _ _ (by simp; omega), Hp.get_set_ne _ _ _ _ (by omega), Hp.get_push_ne _ _ _ (by omega)]; exact g5
   · rw [if_neg]
     intro e; rw [e] at eR; exact hne (List.eq_nil_of_length_eq_zero (by simpa using eR))
   · rw [Hp.get_set_ne _ _ _ _ (by omega), Hp.get_set_self]; rfl
   · rw [Hp.get_set_ne _ _ _ _ (by omega), Hp.get_set_ne _ _ _ _ (by omega), Hp.get_push_ne _ _ _ (by simp; omega), Hp.get_set_ne _ _ _ _ (by omega), Hp.get_push_ne _ _ _ (by omega)]; exact g4
   · simp
 have on : orc 53 = none := ho _ (by simp)
 have cu := uses_spec (orc := orc) (ho _ (by simp)) (posI verbL x1 + 1) (posI whomL x2 + 1)
 clear c1 c2 c3 w1 w2 w3 w4 w5 w6 y1 y2 y3 y4 y5 y6 y7 y8 y9 y10 y11 y12 g1 g2 g3 g4 g5 g6 m0 m1 m2 i0 i1 i2 s3 hx0 hx1 hx2 sp l1 l2 t1 t2 t3 n1 n2 n3 t4 t5 t6 z1 z2
 rw [eW, eV, eM]
 generalize posI whenL x0 + 1 = w at *
 generalize posI verbL x1 + 1 = v at *
 generalize posI whomL x2 + 1 = m at *
 generalize H1.n + 1 = qb at *
 generalize h.n + 2 = pb at *
 have f1 := I2.part
 (have fct := Fj @f1 (Fj @part_1 (Fj @part_2 @cu)); refine GO ?_; clear fct)
 refine R_ex (by simp (maxDischargeDepth := 12) only [opsB, Nat.reduceEqDiff, Nat.reduceBEq, Nat.reduceBNe, Int.reduceBEq, Int.reduceBNe, Int.reduceLT, Int.reduceLE, Int.reduceEq, AV.one, AV.cells, CA.ev, abin, aint, aun, isShift, readVar, readCell, readCells, writeCells, fillA, reduceIte, Nat.reduceAdd, Nat.reduceSub, Nat.reduceLT, Nat.reduceLeDiff, resAll, resOne, AV.under, AV.unders, cut, op_callV, callV_func]; (first | done | with_reducible rfl)) (I2.next on _) fun v1 H3 hh => ?_
 obtain ⟨rfl, I3⟩ := hh
 refine A_tm ?_
 have r1 := hP.atoi (nextW (uC v) (L.drop 3)) H3 I3.gr (nextW_len I2.len)
 have d1 := I3.part
 (have fct := Fj @r1 (Fj @d1 (Fj @over_3 @part_len)); refine GO ?_; clear fct)
 refine R_ex (by simp (maxDischargeDepth := 12) only [opsB, Nat.reduceEqDiff, Nat.reduceBEq, Nat.reduceBNe, Int.reduceBEq, Int.reduceBNe, Int.reduceLT, Int.reduceLE, Int.reduceEq, AV.one, AV.cells, CA.ev, abin, aint, aun, isShift, readVar, readCell, readCells, writeCells, fillA, reduceIte, Nat.reduceAdd, Nat.reduceSub, Nat.reduceLT, Nat.reduceLeDiff, resAll, resOne, AV.under, AV.unders, cut, op_callV, callV_func]; (first | done | with_reducible rfl)) ((I3.store _).next on _) fun v1 H4 hh => ?_
 obtain ⟨rfl, I4⟩ := hh
 refine A_tm ?_
 have r2 := hP.suit (nextW (uS v m) (nextR (uC v) (L.drop 3))) H4
 have d2 := I4.part
 (have fct := Fj @r2 (Fj @d2 (Fj @over_4 @part_len)); refine GO ?_; clear fct)
 refine R_ex (by simp (maxDischargeDepth := 12) only [opsB, Nat.reduceEqDiff, Nat.reduceBEq, Nat.reduceBNe, Int.reduceBEq, Int.reduceBNe, Int.reduceLT, Int.reduceLE, Int.reduceEq, AV.one, AV.cells, CA.ev, abin, aint, aun, isShift, readVar, readCell, readCells, writeCells, fillA, reduceIte, Nat.reduceAdd, Nat.reduceSub, Nat.reduceLT, Nat.reduceLeDiff, resAll, resOne, AV.under, AV.unders, cut, op_callV, callV_func]; (first | done | with_reducible rfl)) ((I4.store _).next on _) fun v1 H5 hh => ?_
 obtain ⟨rfl, I5⟩ := hh
 refine A_tm ?_
 have r3 := traitOf_spec (orc := orc) (ho _ (by simp)) hT (nextW (uT v m) (nextR (uS v m) (nextR (uC v) (L.drop 3)))) I5.gr
 have d3 := I5.part
 (have fct := Fj @r3 (Fj @d3 (Fj @over_5 @part_len)); refine GO ?_; clear fct)
 refine R_ex (by simp (maxDischargeDepth := 12) only [opsB, Nat.reduceEqDiff, Nat.reduceBEq, Nat.reduceBNe, Int.reduceBEq, Int.reduceBNe, Int.reduceLT, Int.reduceLE, Int.reduceEq, AV.one, AV.cells, CA.ev, abin, aint, aun, isShift, readVar, readCell, readCells, writeCells, fillA, reduceIte, Nat.reduceAdd, Nat.reduceSub, Nat.reduceLT, Nat.reduceLeDiff, resAll, resOne, AV.under, AV.unders, cut, op_callV, callV_func]; (first | done | with_reducible rfl)) ((I5.store _).next on _) fun v1 H6 hh => ?_
 obtain ⟨rfl, I6⟩ := hh
 refine A_tm ?_
 have r4 := hP.atoi (nextW (uM v) (nextR (uT v m) (nextR (uS v m) (nextR (uC v) (L.drop 3))))) H6 I6.gr (nextW_len I5.len)
 have d4 := I6.part
 have wc := wrap_clamp (atoiV (nextW (uM v) (nextR (uT v m) (nextR (uS v m) (nextR (uC v) (L.drop 3))))))
 have ec := clamp_eq (atoiV (nextW (uM v) (nextR (uT v m) (nextR (uS v m) (nextR (uC v) (L.drop 3))))))
 (have fct := Fj @r4 (Fj @d4 (Fj @over_6 (Fj @part_len (Fj @wc (Fj @ec (Fj @op_max2 (Fj @op_min2 (Fj @maxV_int @minV_int)))))))); refine GO ?_; clear fct)
 refine R_ex (by simp (maxDischargeDepth := 12) only [opsB, Nat.reduceEqDiff, Nat.reduceBEq, Nat.reduceBNe, Int.reduceBEq, Int.reduceBNe, Int.reduceLT, Int.reduceLE, Int.reduceEq, AV.one, AV.cells, CA.ev, abin, aint, aun, isShift, readVar, readCell, readCells, writeCells, fillA, reduceIte, Nat.reduceAdd, Nat.reduceSub, Nat.reduceLT, Nat.reduceLeDiff, resAll, resOne, AV.under, AV.unders, cut, op_callV, callV_func]; (first | done | with_reducible rfl)) ((I6.store _).next on _) fun v1 H7 hh => ?_
 obtain ⟨rfl, I7⟩ := hh
 refine A_tm ?_
 have d5 := I7.part
 (have fct := Fj @d5 (Fj @over_7 (Fj @part_len @part_take)); refine GO ?_; clear fct)
 refine R_heap (PS h0 h.n pb qb (partR atoiV sf v m w (L.drop 3)) (nextR (uN v) (nextR (uM v) (nextR (uT v m) (nextR (uS v m) (nextR (uC v) (L.drop 3))))))) (I7.store _) (fun H8 I8 => ?_)
 have cp := print_spec (orc := orc) (fun f hf => ho f (by revert hf; simp only [List.mem_cons, List.mem_nil_iff, or_false]; intro hf; omega)) ht hF hJ hT w v m (rC atoiV v m (L.drop 3)) (rS sf v m (L.drop 3)) (rT v m (L.drop 3)) (rK atoiV v m (L.drop 3)) (rN v m (L.drop 3)) I8.gr
 have f8 := I8.part
 have fN := I8.res
 have lo8 := I8.low
 have g08 := I8.g0
 have pn8 := I8.pn
 have yN : (qb = h.n) = False := by simp; omega
 have hok : (okP atoiV sf v m w (L.drop 3) s = true) ↔ (chk w v m (rC atoiV v m (L.drop 3)) (rS sf v m (L.drop 3)) (rT v m (L.drop 3)) (rK atoiV v m (L.drop 3)) (rN v m (L.drop 3)) = 0 ∧ txtP w v m (rC atoiV v m (L.drop 3)) (rS sf v m (L.drop 3)) (rT v m (L.drop 3)) (rK atoiV v m (L.drop 3)) (rN v m (L.drop 3)) = s) := decide_eq_true_iff
 generalize okP atoiV sf v m w (L.drop 3) s = B at *
 unfold partR at f8 ⊢
 unfold zeroP at fN ⊢
 clear I8 I7 I6 I5 I4 I3 I2 r1 r2 r3 r4 d1 d2 d3 d4 d5 f1 cu on wc ec
 simp only [rC, rS, rT, rK, rN, q4, q3, q2, q1] at cp f8 hok ⊢
 generalize atoiV (nextW (uC v) (L.drop 3)) = C at *
 generalize (sf (nextW (uS v m) (nextR (uC v) (L.drop 3)))).1 = S at *
 generalize (traitOf (nextW (uT v m) (nextR (uS v m) (nextR (uC v) (L.drop 3))))).1 = U at *
 generalize clamp (atoiV (nextW (uM v) (nextR (uT v m) (nextR (uS v m) (nextR (uC v) (L.drop 3)))))) = K at *
 generalize nextW (uN v) (nextR (uM v) (nextR (uT v m) (nextR (uS v m) (nextR (uC v) (L.drop 3))))) = N at *
 generalize chk w v m C S U K N = X at *
 generalize txtP w v m C S U K N = Y at *
 by_cases hX : X = 0
 case neg =>
  have x1 : (X != 0) = true := by simpa using hX
  have x2 : B = false := by rw [Bool.eq_false_iff]; exact fun e => hX (hok.1 e).1
  subst x2
  clear hok
  (have fct := Fj @cp (Fj @x1 (Fj @f8 (Fj @fN (Fj @over_8 (Fj @part_len (Fj @part_take (Fj @part_one (Fj @yN fsAstr)))))))); refine GO ?_; clear fct)
  (have fct := Fj @part_take (Fj @part_len (Fj @part_under (Fj @over_8 (Fj @yN @fN)))); refine A_end ?_; clear fct; try exact trivial)
  all_goals first | exact lo8 | exact ⟨lo8, rfl⟩
 case pos =>
 have x1 : (X != 0) = false := by simp [hX]
 by_cases hY : Y = s
 case neg =>
  have x2 : B = false := by rw [Bool.eq_false_iff]; exact fun e => hY (hok.1 e).2
  have x3 : (!decide (Y = s)) = true := by simp [hY]
  subst x2
  clear hok
  (have fct := Fj @cp (Fj @x1 (Fj @x3 (Fj @f8 (Fj @fN (Fj @over_8 (Fj @part_len (Fj @part_take (Fj @part_one (Fj @yN fsAstr))))))))); refine GO ?_; clear fct)
  (have fct := Fj @part_take (Fj @part_len (Fj @part_under (Fj @over_8 (Fj @yN @fN)))); refine A_end ?_; clear fct; try exact trivial)
  all_goals first | exact lo8 | exact ⟨lo8, rfl⟩
 case pos =>
  have x2 : B = true := hok.2 ⟨hX, hY⟩
  have x3 : (!decide (Y = s)) = false := by simp [hY]
  subst x2
  clear hok
  (have fct := Fj @cp (Fj @x1 (Fj @x3 (Fj @f8 (Fj @fN (Fj @over_8 (Fj @part_len (Fj @part_take (Fj @part_one (Fj @yN fsAstr))))))))); refine GO ?_; clear fct)
  (have fct := Fj @part_take (Fj @part_len (Fj @part_under (Fj @over_8 (Fj @yN @fN)))); refine A_end ?_; clear fct; try exact trivial)
  all_goals first | exact lo8 | exact ⟨lo8, rfl⟩
end Go.Proofs.Ef
