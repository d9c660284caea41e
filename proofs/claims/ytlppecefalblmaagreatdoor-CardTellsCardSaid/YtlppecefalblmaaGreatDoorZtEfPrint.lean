/- Both prints of a part give one text. -/
import Derived.Test.YtlppecefalblmaaGreatDoorFz05
import Derived.Test.YtlppecefalblmaaGreatDoorZtEfBase
import Derived.Test.YtlppecefalblmaaGreatDoorFz05
import Derived.Lib.Join
import Derived.Lib.Fields
namespace Go.Proofs.Ef
set_option maxRecDepth 100000
set_option maxHeartbeats 32000000
open Go Go.Fs
set_option linter.unusedSimpArgs false
set_option linter.unusedVariables false
variable {orc : Orc}
def cf101 : CF := ⟨5, [(.cell 0 (some 3))], (.seq (.region [Zo 0 (.alloc [(.slice none 0 (.exact 0)), (.slice none 0 (.exact 0)), (.slice none 0 (.exact 0))])]) (.seq (.region [Zo 1 (.call (.f 137) [(.c (.str [112, 108, 97, 121, 101, 100, 32, 98, 114, 111, 107, 101, 110, 32, 98, 101, 103, 117, 110, 32, 115, 116, 114, 117, 99, 107, 32, 97, 108, 119, 97, 121, 115, 32, 114, 97, 116, 104, 101, 114]))]), Zo 2 (.call (.f 137) [(.c (.str [104, 97, 114, 109, 32, 109, 101, 110, 100, 32, 100, 114, 97, 119, 32, 100, 114, 111, 112, 32, 103, 97, 105, 110, 32, 98, 114, 101, 97, 107, 32, 99, 97, 108, 108, 32, 98, 97, 99, 107, 32, 112, 117, 116, 32, 115, 101, 105, 122, 101, 32, 100, 121, 101, 32, 103, 114, 97, 110, 116, 32, 115, 116, 114, 105, 112, 32, 98, 97, 115, 101, 32, 114, 97, 105, 115, 101, 32, 108, 101, 115, 115, 32, 116, 119, 105, 99, 101, 32, 116, 117, 114, 110, 101, 100, 32, 105, 110, 115, 116, 101, 97, 100]))]), Zo 3 (.call (.f 137) [(.c (.str [121, 111, 117, 32, 102, 111, 101, 32, 105, 116, 32, 115, 101, 108, 102, 32, 121, 111, 117, 114, 115, 32, 116, 104, 101, 105, 114, 115, 32, 97, 108, 108, 32, 114, 101, 115, 116, 32, 100, 121, 101, 100, 32, 119, 105, 116, 104]))]), Zo 4 (.build [(.slice none 0 (.exact 0)), (.slice none 0 (.exact 0)), (.slice none 0 (.exact 0))] [(0, (1, (.t 1))), (1, (1, (.t 2))), (2, (1, (.t 3)))]), Zn (.store 3 (.t 0) (.t 4))]) .ret))⟩
def cf43 : CF := ⟨88, [(.tmp 2), (.tmp 3)], (.seq (.region [Zo 1 (.box (.t 0)), Zo 2 (.mv (.c (.str []))), Zo 3 (.mv (.c (.int .i64 0)))]) (.seq (.seq (.region [Zo 12 (.load (some 8) (.t 1)), Zo 13 (.call (.f 37) [(.t 12)]), Zm 4 13]) (.seq (.region [Zm 14 4, Zb 15 .neq (.t 14) (.c (.int .i64 0))]) (.cond (.t 15) (.seq (.region [Zm 16 4, Zo 2 (.mv (.c (.str []))), Zm 3 16]) .ret) .skip))) (.seq (.region [Zo 17 (.call (.f 101) []), Zo 5 (.alloc [(.slice none 0 (.exact 0)), (.slice none 0 (.exact 0)), (.slice none 0 (.exact 0))]), Zn (.store 3 (.t 5) (.t 17))]) (.seq (.regionD [⟨Zo 18 (.iaddrA 3 1 (.t 5) (.c (.int .i64 0))), 0, 0, false⟩, ⟨Zl 19 18, 0, 0, false⟩, ⟨Zf 20 0 1, 0, 0, false⟩, ⟨Zl 21 20, 0, 0, false⟩, ⟨Zb 22 .sub (.t 21) (.c (.int .u8 1)), 0, 0, false⟩, ⟨Zo 23 (.iaddrS 1 (.t 19) (.t 22)), 0, 0, false⟩, ⟨Zl 24 23, 0, 0, false⟩, ⟨Zo 25 (.iaddrA 3 1 (.t 5) (.c (.int .i64 1))), 0, 0, false⟩, ⟨Zl 26 25, 0, 0, false⟩, ⟨Zf 27 1 1, 0, 0, false⟩, ⟨Zl 28 27, 0, 0, false⟩, ⟨Zb 29 .sub (.t 28) (.c (.int .u8 1)), 0, 0, false⟩, ⟨Zo 30 (.iaddrS 1 (.t 26) (.t 29)), 0, 0, false⟩, ⟨Zl 31 30, 0, 0, false⟩, ⟨Zo 32 (.iaddrA 3 1 (.t 5) (.c (.int .i64 2))), 0, 0, false⟩, ⟨Zl 33 32, 0, 0, false⟩, ⟨Zf 34 2 1, 0, 0, false⟩, ⟨Zl 35 34, 0, 0, false⟩, ⟨Zb 36 .sub (.t 35) (.c (.int .u8 1)), 0, 0, false⟩, ⟨Zo 37 (.iaddrS 1 (.t 33) (.t 36)), 0, 0, false⟩, ⟨Zl 38 37, 0, 0, false⟩, ⟨Zo 39 (.litS 1 3 [(.str [])] [(0, (1, (.t 24))), (1, (1, (.t 31))), (2, (1, (.t 38)))]), 0, 1, false⟩, ⟨Zm 6 39, 1, 1, false⟩]) (.seq (.region [Zf 41 1 1, Zl 42 41, Zf 43 2 1, Zl 44 43, Zo 45 (.call (.f 89) [(.t 42), (.t 44)]), Zm 40 45, Ze 46 0 40, Ze 47 1 40, Ze 48 2 40, Ze 49 3 40, Ze 50 4 40, Zm 7 46, Zm 8 47, Zm 9 48, Zm 10 49, Zm 11 50]) (.seq (.seq (.region [Zm 51 7]) (.cond (.t 51) (.region [Zm 52 6, Zf 53 3 1, Zl 54 53, Zo 55 (.call (.f 40) [(.t 54)]), Zo 56 (.litS 1 1 [(.str [])] [(0, (1, (.t 55)))]), Zo 57 (.append 1 16 (.t 52) (.t 56)), Zm 6 57]) .skip)) (.seq (.seq (.region [Zm 58 8]) (.cond (.t 58) (.region [Zm 59 6, Zf 60 4 1, Zl 61 60, Zo 62 (.call (.f 38) [(.t 61)]), Zo 63 (.litS 1 1 [(.str [])] [(0, (1, (.t 62)))]), Zo 64 (.append 1 16 (.t 59) (.t 63)), Zm 6 64]) .skip)) (.seq (.seq (.region [Zm 65 9]) (.cond (.t 65) (.region [Zm 66 6, Zf 67 5 1, Zl 68 67, Zo 69 (.call (.f 42) [(.t 68)]), Zo 70 (.litS 1 1 [(.str [])] [(0, (1, (.t 69)))]), Zo 71 (.append 1 16 (.t 66) (.t 70)), Zm 6 71]) .skip)) (.seq (.seq (.region [Zm 72 10]) (.cond (.t 72) (.region [Zm 73 6, Zf 74 6 1, Zl 75 74, Zo 76 (.toInt .i64 (.t 75)), Zo 77 (.call (.f 40) [(.t 76)]), Zo 78 (.litS 1 1 [(.str [])] [(0, (1, (.t 77)))]), Zo 79 (.append 1 16 (.t 73) (.t 78)), Zm 6 79]) .skip)) (.seq (.seq (.region [Zm 80 11]) (.cond (.t 80) (.region [Zm 81 6, Zf 82 7 1, Zl 83 82, Zo 84 (.litS 1 1 [(.str [])] [(0, (1, (.t 83)))]), Zo 85 (.append 1 16 (.t 81) (.t 84)), Zm 6 85]) .skip)) (.seq (.region [Zm 86 6, Zo 87 (.call (.f 44) [(.t 86), (.c (.str [32]))]), Zm 2 87, Zo 3 (.mv (.c (.int .i64 0)))]) .ret)))))))))))⟩
def cf51 : CF := ⟨85, [(.tmp 2), (.tmp 3)], (.seq (.region [Zo 1 (.box (.t 0)), Zo 2 (.mv (.c (.str []))), Zo 3 (.mv (.c (.int .i64 0)))]) (.seq (.region [Zo 11 (.load (some 8) (.t 1)), Zo 12 (.call (.f 55) [(.t 11)]), Zm 4 12]) (.seq (.seq (.region [Zm 13 4, Zb 14 .neq (.t 13) (.c (.int .i64 0))]) (.cond (.t 14) (.seq (.region [Zm 15 4, Zo 2 (.mv (.c (.str []))), Zm 3 15]) .ret) .skip)) (.seq (.regionD [⟨Zo 16 (.call (.f 106) []), 0, 1, false⟩, ⟨Zf 17 0 1, 0, 3, false⟩, ⟨Zl 18 17, 0, 3, false⟩, ⟨Zb 19 .sub (.t 18) (.c (.int .u8 1)), 0, 3, false⟩, ⟨Zo 20 (.iaddrS 1 (.t 16) (.t 19)), 1, 3, false⟩, ⟨Zl 21 20, 1, 3, false⟩, ⟨Zb 22 .add (.t 21) (.c (.str [32])), 1, 3, false⟩, ⟨Zo 23 (.call (.f 107) []), 1, 2, false⟩, ⟨Zf 24 1 1, 0, 3, false⟩, ⟨Zl 25 24, 0, 3, false⟩, ⟨Zb 26 .sub (.t 25) (.c (.int .u8 1)), 0, 3, false⟩, ⟨Zo 27 (.iaddrS 1 (.t 23) (.t 26)), 2, 3, false⟩, ⟨Zl 28 27, 2, 3, false⟩, ⟨Zb 29 .add (.t 22) (.t 28), 2, 3, false⟩, ⟨Zb 30 .add (.t 29) (.c (.str [32])), 2, 3, false⟩, ⟨Zo 31 (.call (.f 108) []), 2, 3, false⟩, ⟨Zf 32 2 1, 0, 3, false⟩, ⟨Zl 33 32, 0, 3, false⟩, ⟨Zb 34 .sub (.t 33) (.c (.int .u8 1)), 0, 3, false⟩, ⟨Zo 35 (.iaddrS 1 (.t 31) (.t 34)), 3, 3, false⟩, ⟨Zl 36 35, 3, 3, false⟩, ⟨Zb 37 .add (.t 30) (.t 36), 3, 3, false⟩, ⟨Zm 5 37, 3, 3, false⟩]) (.seq (.region [Zf 39 1 1, Zl 40 39, Zf 41 2 1, Zl 42 41, Zo 43 (.call (.f 109) [(.t 40), (.t 42)]), Zm 38 43, Ze 44 0 38, Ze 45 1 38, Ze 46 2 38, Ze 47 3 38, Ze 48 4 38, Zm 6 44, Zm 7 45, Zm 8 46, Zm 9 47, Zm 10 48]) (.seq (.seq (.region [Zm 49 6]) (.cond (.t 49) (.region [Zm 50 5, Zb 51 .add (.t 50) (.c (.str [32])), Zf 52 3 1, Zl 53 52, Zo 54 (.call (.f 110) [(.t 53)]), Zb 55 .add (.t 51) (.t 54), Zm 5 55]) .skip)) (.seq (.seq (.region [Zm 56 7]) (.cond (.t 56) (.region [Zm 57 5, Zb 58 .add (.t 57) (.c (.str [32])), Zf 59 4 1, Zl 60 59, Zo 61 (.call (.f 47) [(.t 60)]), Zb 62 .add (.t 58) (.t 61), Zm 5 62]) .skip)) (.seq (.seq (.region [Zm 63 8]) (.cond (.t 63) (.region [Zm 64 5, Zb 65 .add (.t 64) (.c (.str [32])), Zf 66 5 1, Zl 67 66, Zo 68 (.call (.f 50) [(.t 67)]), Zb 69 .add (.t 65) (.t 68), Zm 5 69]) .skip)) (.seq (.seq (.region [Zm 70 9]) (.cond (.t 70) (.region [Zm 71 5, Zb 72 .add (.t 71) (.c (.str [32])), Zf 73 6 1, Zl 74 73, Zo 75 (.toInt .i64 (.t 74)), Zo 76 (.call (.f 110) [(.t 75)]), Zb 77 .add (.t 72) (.t 76), Zm 5 77]) .skip)) (.seq (.seq (.region [Zm 78 10]) (.cond (.t 78) (.region [Zm 79 5, Zb 80 .add (.t 79) (.c (.str [32])), Zf 81 7 1, Zl 82 81, Zb 83 .add (.t 80) (.t 82), Zm 5 83]) .skip)) (.seq (.region [Zm 84 5, Zm 2 84, Zo 3 (.mv (.c (.int .i64 0)))]) .ret)))))))))))⟩
def cf106 : CF := ⟨2, [(.tmp 0)], (.seq (.region [Zo 0 (.mv (.c (.slice none 0 (.exact 0))))]) (.seq (.region [Zo 1 (.litS 1 6 [(.str [])] [(0, (1, (.c (.str [112, 108, 97, 121, 101, 100])))), (1, (1, (.c (.str [98, 114, 111, 107, 101, 110])))), (2, (1, (.c (.str [98, 101, 103, 117, 110])))), (3, (1, (.c (.str [115, 116, 114, 117, 99, 107])))), (4, (1, (.c (.str [97, 108, 119, 97, 121, 115])))), (5, (1, (.c (.str [114, 97, 116, 104, 101, 114]))))]), Zm 0 1]) .ret))⟩
def cf107 : CF := ⟨2, [(.tmp 0)], (.seq (.region [Zo 0 (.mv (.c (.slice none 0 (.exact 0))))]) (.seq (.region [Zo 1 (.litS 1 19 [(.str [])] [(0, (1, (.c (.str [104, 97, 114, 109])))), (1, (1, (.c (.str [109, 101, 110, 100])))), (2, (1, (.c (.str [100, 114, 97, 119])))), (3, (1, (.c (.str [100, 114, 111, 112])))), (4, (1, (.c (.str [103, 97, 105, 110])))), (5, (1, (.c (.str [98, 114, 101, 97, 107])))), (6, (1, (.c (.str [99, 97, 108, 108])))), (7, (1, (.c (.str [98, 97, 99, 107])))), (8, (1, (.c (.str [112, 117, 116])))), (9, (1, (.c (.str [115, 101, 105, 122, 101])))), (10, (1, (.c (.str [100, 121, 101])))), (11, (1, (.c (.str [103, 114, 97, 110, 116])))), (12, (1, (.c (.str [115, 116, 114, 105, 112])))), (13, (1, (.c (.str [98, 97, 115, 101])))), (14, (1, (.c (.str [114, 97, 105, 115, 101])))), (15, (1, (.c (.str [108, 101, 115, 115])))), (16, (1, (.c (.str [116, 119, 105, 99, 101])))), (17, (1, (.c (.str [116, 117, 114, 110, 101, 100])))), (18, (1, (.c (.str [105, 110, 115, 116, 101, 97, 100]))))]), Zm 0 1]) .ret))⟩
def cf108 : CF := ⟨2, [(.tmp 0)], (.seq (.region [Zo 0 (.mv (.c (.slice none 0 (.exact 0))))]) (.seq (.region [Zo 1 (.litS 1 10 [(.str [])] [(0, (1, (.c (.str [121, 111, 117])))), (1, (1, (.c (.str [102, 111, 101])))), (2, (1, (.c (.str [105, 116])))), (3, (1, (.c (.str [115, 101, 108, 102])))), (4, (1, (.c (.str [121, 111, 117, 114, 115])))), (5, (1, (.c (.str [116, 104, 101, 105, 114, 115])))), (6, (1, (.c (.str [97, 108, 108])))), (7, (1, (.c (.str [114, 101, 115, 116])))), (8, (1, (.c (.str [100, 121, 101, 100])))), (9, (1, (.c (.str [119, 105, 116, 104]))))]), Zm 0 1]) .ret))⟩
theorem tbl101 : tbl Tryz.prog 101 = some cf101 := by kernel_rfl
theorem tbl43 : tbl Tryz.prog 43 = some cf43 := by kernel_rfl
theorem tbl51 : tbl Tryz.prog 51 = some cf51 := by kernel_rfl
theorem tbl106 : tbl Tryz.prog 106 = some cf106 := by kernel_rfl
theorem tbl107 : tbl Tryz.prog 107 = some cf107 := by kernel_rfl
theorem tbl108 : tbl Tryz.prog 108 = some cf108 := by kernel_rfl
def txW : List UInt8 := [112, 108, 97, 121, 101, 100, 32, 98, 114, 111, 107, 101, 110, 32, 98, 101, 103, 117, 110, 32, 115, 116, 114, 117, 99, 107, 32, 97, 108, 119, 97, 121, 115, 32, 114, 97, 116, 104, 101, 114]
def txV : List UInt8 := [104, 97, 114, 109, 32, 109, 101, 110, 100, 32, 100, 114, 97, 119, 32, 100, 114, 111, 112, 32, 103, 97, 105, 110, 32, 98, 114, 101, 97, 107, 32, 99, 97, 108, 108, 32, 98, 97, 99, 107, 32, 112, 117, 116, 32, 115, 101, 105, 122, 101, 32, 100, 121, 101, 32, 103, 114, 97, 110, 116, 32, 115, 116, 114, 105, 112, 32, 98, 97, 115, 101, 32, 114, 97, 105, 115, 101, 32, 108, 101, 115, 115, 32, 116, 119, 105, 99, 101, 32, 116, 117, 114, 110, 101, 100, 32, 105, 110, 115, 116, 101, 97, 100]
def txM : List UInt8 := [121, 111, 117, 32, 102, 111, 101, 32, 105, 116, 32, 115, 101, 108, 102, 32, 121, 111, 117, 114, 115, 32, 116, 104, 101, 105, 114, 115, 32, 97, 108, 108, 32, 114, 101, 115, 116, 32, 100, 121, 101, 100, 32, 119, 105, 116, 104]
def whenL : List (List UInt8) := [[112, 108, 97, 121, 101, 100], [98, 114, 111, 107, 101, 110], [98, 101, 103, 117, 110], [115, 116, 114, 117, 99, 107], [97, 108, 119, 97, 121, 115], [114, 97, 116, 104, 101, 114]]
def verbL : List (List UInt8) := [[104, 97, 114, 109], [109, 101, 110, 100], [100, 114, 97, 119], [100, 114, 111, 112], [103, 97, 105, 110], [98, 114, 101, 97, 107], [99, 97, 108, 108], [98, 97, 99, 107], [112, 117, 116], [115, 101, 105, 122, 101], [100, 121, 101], [103, 114, 97, 110, 116], [115, 116, 114, 105, 112], [98, 97, 115, 101], [114, 97, 105, 115, 101], [108, 101, 115, 115], [116, 119, 105, 99, 101], [116, 117, 114, 110, 101, 100], [105, 110, 115, 116, 101, 97, 100]]
def whomL : List (List UInt8) := [[121, 111, 117], [102, 111, 101], [105, 116], [115, 101, 108, 102], [121, 111, 117, 114, 115], [116, 104, 101, 105, 114, 115], [97, 108, 108], [114, 101, 115, 116], [100, 121, 101, 100], [119, 105, 116, 104]]
theorem fields_W : Lib.fields txW = whenL := by decide +kernel
theorem fields_V : Lib.fields txV = verbL := by decide +kernel
theorem fields_M : Lib.fields txM = whomL := by decide +kernel
theorem word_at {l : List (List UInt8)} {i : Nat} (h : i < l.length) : (l.map AV.str)[i]? = some (.str (l.getD i [])) := by
 rw [List.getElem?_map, List.getElem?_eq_getElem h, List.getD_eq_getElem?_getD, List.getElem?_eq_getElem h]; rfl
structure Kp (N : Nat) (h h1 : AH) : Prop where
 n : h.n ≤ h1.n
 get : ∀ b, b < h.n → h1.get b = h.get b
 low : N ≤ h.n → N ≤ h.low → N ≤ h1.low
theorem kp_settle {N : Nat} {h h' : AH} {v : AV} (g1 : h.n ≤ h'.n) (g2 : ∀ b, b < h.n → h'.get b = h.get b) (g3 : h.n ≤ h'.low) : Kp N h (Fs.settle h h' v).2 := by
 unfold Fs.settle
 split
 · exact ⟨Nat.le_refl _, fun _ _ => rfl, fun _ h => h⟩
 · exact ⟨by simpa using g1, fun b hb => by simpa using g2 b hb, fun h1 h2 => by simp; omega⟩
theorem get_settle {h h' : AH} {v : AV} (hv : v.under h.n = false) (b : Nat) : (Fs.settle h h' v).2.get b = h'.get b := by
 unfold Fs.settle
 rw [if_neg (by simp [hv])]
 simp
theorem n_settle {h h' : AH} {v : AV} (hv : v.under h.n = false) : (Fs.settle h h' v).2.n = h'.n := by
 unfold Fs.settle
 rw [if_neg (by simp [hv])]
 simp
theorem settle_fst1 (h h' : AH) (v : AV) : (Fs.settle h h' v).1 = v := by unfold Fs.settle; split <;> rfl
theorem ResK_eq {call : Rec} {Q : AEx → List AV → AH → Prop} {st : List Fs.Fr} {tm : List AV} {r : Option (AV × AH)} {dst : Option Nat} {os : List CR} {v : AV} {h' : AH} (hr : r = some (v, h')) (hk : RunK call Q os st (put tm dst v) h') : ResK call Q r dst os st tm := ⟨v, h', hr, hk⟩
theorem DResK_ex {call : Rec} {Q : AEx → List AV → AH → Prop} {st : List Fs.Fr} {r : Option (AV × AH)} {o : CD} {os : List CD} {pr : List (Nat × Nat × CO × AV)} {hs : List AH} {tm : List AV} {h : AH} {R : AV → AH → Prop} (hr : ∃ v h', r = some (v, h') ∧ R v h')
    (hk : ∀ v h', R v h' → DrawK call Q st os (if o.op.reads then pr ++ [(o.lo, o.hi, closeOp tm o.op, v)] else pr) (if o.op.quiet then hs else hs ++ [h]) (put tm o.dst v) h') : DResK call Q st r o os pr hs tm h := by
 obtain ⟨v, h', h1, h2⟩ := hr
 exact ⟨v, h', h1, hk v h' h2⟩
theorem CodeK_mid {call : Rec} {Q : AEx → List AV → AH → Prop} {st : List Fs.Fr} {tm : List AV} {h : AH} {c : CC} (R : List AV → AH → Prop) (h1 : CodeK call Q c (.inv R :: st) tm h) (h2 : ∀ tm' h', R tm' h' → RetK call Q st .normal tm' h') : CodeK call Q c st tm h := by
 refine WP.mono h1 fun e tm h he => ?_
 cases e with
 | normal => exact h2 _ _ he
 | exit i => exact he
 | ret => exact he
theorem CondK_mid {call : Rec} {Q : AEx → List AV → AH → Prop} {st : List Fs.Fr} {tm : List AV} {h : AH} {a b : CC} {x : Bool} (R : List AV → AH → Prop) (h1 : x = true → CodeK call Q a (.inv R :: st) tm h) (h3 : x = false → CodeK call Q b (.inv R :: st) tm h) (h2 : ∀ tm' h', R tm' h' → RetK call Q st .normal tm' h') : CondK call Q (.bool x) a b st tm h := by
 cases x with
 | true => exact CodeK_mid R (h1 rfl) h2
 | false => exact CodeK_mid R (h3 rfl) h2
def Flds (orc : Orc) (h0 : AH) : Prop := ∀ (a : List UInt8) (ws : List (List UInt8)) (h : AH), Grown h0 h → a.length ≤ 1000 → a.all (fun c => decide (c.toNat < 128)) = true → Lib.fields a = ws → acall orc T 137 [.str a] h = some (.slice (some (h.n, 0)) ws.length (.exact ws.length), h.push (.cells (ws.map AV.str) false))
def Joins (orc : Orc) : Prop := ∀ (L : List (List UInt8)) (b : Nat) (cap : Cap) (ro : Bool) (h : AH), h.get b = some (.cells (L.map AV.str) ro) → L ≠ [] → (cap = .opn 1 ∨ cap = .exact L.length) → L.length ≤ 1000 → (Lib.join L [32]).length ≤ 100000 → acall orc T 44 [.slice (some (b, 0)) L.length cap, .str [32]] h = some (.str (Lib.join L [32]), h)
def natD (n : Nat) : List UInt8 := if n < 10 then [UInt8.ofNat (48 + n)] else [UInt8.ofNat (48 + n / 10), UInt8.ofNat (48 + n % 10)]
def dig (c : Int) : List UInt8 := if c < 0 then 45 :: natD (-c).toNat else natD c.toNat
def sN (s : Int) : List UInt8 := ([[97, 105, 114], [101, 97, 114, 116, 104], [102, 105, 114, 101], [119, 97, 116, 101, 114], [118, 111, 105, 100], [103, 111, 108, 100]] : List (List UInt8)).getD (s - 1).toNat []
def tN (t : Int) : List UInt8 := ([[102, 97, 115, 116], [103, 117, 97, 114, 100], [118, 101, 110, 111, 109], [108, 111, 110, 101], [100, 114, 97, 105, 110], [109, 117, 116, 101], [102, 105, 120, 101, 100], [115, 119, 105, 102, 116]] : List (List UInt8)).getD (t - 1).toNat []
structure Told (orc : Orc) (h0 : AH) : Prop where
 itoa : ∀ (c : Int) (h : AH), Grown h0 h → -99 ≤ c → c ≤ 99 → acall orc T 40 [.int .i64 c] h = some (.str (dig c), h)
 digits : ∀ (c : Int) (h : AH), Grown h0 h → -99 ≤ c → c ≤ 99 → acall orc T 110 [.int .i64 c] h = some (.str (dig c), h)
 suit : ∀ (s : Int) (h : AH), Grown h0 h → 1 ≤ s → s ≤ 6 → acall orc T 38 [.int .u8 s] h = some (.str (sN s), h)
 rsuit : ∀ (s : Int) (h : AH), Grown h0 h → 1 ≤ s → s ≤ 6 → acall orc T 47 [.int .u8 s] h = some (.str (sN s), h)
 trait : ∀ (t : Int) (h : AH), Grown h0 h → 1 ≤ t → t ≤ 8 → acall orc T 42 [.int .u8 t] h = some (.str (tN t), h)
 rtrait : ∀ (t : Int) (h : AH), Grown h0 h → 1 ≤ t → t ≤ 8 → acall orc T 50 [.int .u8 t] h = some (.str (tN t), h)
theorem Grown.kp {N : Nat} {h0 h h1 : AH} (g : Grown h0 h) (k : Kp N h h1) : Grown h0 h1 := ⟨Nat.le_trans g.1 k.n, fun b hb => by rw [k.get b (Nat.lt_of_lt_of_le hb g.1), g.2 b hb]⟩
theorem words_spec (N : Nat) (ho : orc 101 = none) {h0 h : AH} (hF : Flds orc h0) (hg : Grown h0 h) : ∃ v1 h1, acall orc T 101 [] h = some (v1, h1) ∧
    (∃ b1 b2 b3, v1 = .agg [.slice (some (b1, 0)) 6 (.exact 6), .slice (some (b2, 0)) 19 (.exact 19), .slice (some (b3, 0)) 10 (.exact 10)] ∧ (h1.get b1 = some (.cells (whenL.map AV.str) false) ∧ h1.get b2 = some (.cells (verbL.map AV.str) false) ∧ h1.get b3 = some (.cells (whomL.map AV.str) false)) ∧ (b1 < h1.n ∧ b2 < h1.n ∧ b3 < h1.n) ∧ Kp N h h1) := by
 refine acall_facts (R := fun v1 h1 => ∃ b1 b2 b3, v1 = .agg [.slice (some (b1, 0)) 6 (.exact 6), .slice (some (b2, 0)) 19 (.exact 19), .slice (some (b3, 0)) 10 (.exact 10)] ∧ (h1.get b1 = some (.cells (whenL.map AV.str) false) ∧ h1.get b2 = some (.cells (verbL.map AV.str) false) ∧ h1.get b3 = some (.cells (whomL.map AV.str) false)) ∧ (b1 < h1.n ∧ b2 < h1.n ∧ b3 < h1.n) ∧ Kp N h h1) ho tbl101 ?_
 simp only [settle_fst1]
 refine GD ?_
 have o0 : ∀ a b c y : AV, Fs.over [a, b, c] 0 [y] = [y, b, c] := fun _ _ _ _ => rfl
 have o1 : ∀ a b c y : AV, Fs.over [a, b, c] 1 [y] = [a, y, c] := fun _ _ _ _ => rfl
 have o2 : ∀ a b c y : AV, Fs.over [a, b, c] 2 [y] = [a, b, y] := fun _ _ _ _ => rfl
 have o3 : ∀ a b c x y z : AV, Fs.over [a, b, c] 0 [x, y, z] = [x, y, z] := fun _ _ _ _ _ _ => rfl
 have lW : whenL.length = 6 := rfl
 have lV : verbL.length = 19 := rfl
 have lM : whomL.length = 10 := rfl
 have fW := hF txW whenL
 have fV := hF txV verbL
 have fM := hF txM whomL
 unfold txW at fW
 unfold txV at fV
 unfold txM at fM
 clear hF
 (have fct := trivial; (repeat' first | refine A_walk ?_ | exact trivial | refine GuardK_split (fun hb => ?_) (fun hb => ?_) | refine CondK_split (fun hb => ?_) (fun hb => ?_) | refine CodeK_regionD _ ?_ | refine DGuardK_split (fun hb => ?_) (fun hb => ?_)); all_goals try clear fct)
 refine ResK_eq (fW _ ((hg.low _).push _) (by decide) (by decide) fields_W) ?_
 (have fct := @lW; (repeat' first | refine A_walk ?_ | exact trivial | refine GuardK_split (fun hb => ?_) (fun hb => ?_) | refine CondK_split (fun hb => ?_) (fun hb => ?_) | refine CodeK_regionD _ ?_ | refine DGuardK_split (fun hb => ?_) (fun hb => ?_)); all_goals try clear fct)
 refine ResK_eq (fV _ (((hg.low _).push _).push _) (by decide) (by decide) fields_V) ?_
 (have fct := Fj @lW @lV; (repeat' first | refine A_walk ?_ | exact trivial | refine GuardK_split (fun hb => ?_) (fun hb => ?_) | refine CondK_split (fun hb => ?_) (fun hb => ?_) | refine CodeK_regionD _ ?_ | refine DGuardK_split (fun hb => ?_) (fun hb => ?_)); all_goals try clear fct)
 refine ResK_eq (fM _ ((((hg.low _).push _).push _).push _) (by decide) (by decide) fields_M) ?_
 (have fct := Fj @lW (Fj @lV (Fj @lM (Fj @o0 (Fj @o1 (Fj @o2 @o3))))); (repeat' first | refine A_walk ?_ | exact trivial | refine GuardK_split (fun hb => ?_) (fun hb => ?_) | refine CondK_split (fun hb => ?_) (fun hb => ?_) | refine CodeK_regionD _ ?_ | refine DGuardK_split (fun hb => ?_) (fun hb => ?_)); all_goals try clear fct)
 have hv : AV.under h.n (AV.agg [AV.slice (some (h.n + 1, 0)) 6 (Cap.exact 6), AV.slice (some (h.n + 2, 0)) 19 (Cap.exact 19), AV.slice (some (h.n + 3, 0)) 10 (Cap.exact 10)]) = false := by simp [AV.under, AV.unders]
 refine ⟨_, rfl, h.n + 1, h.n + 2, h.n + 3, rfl, ⟨?_, ?_, ?_⟩, ?_, ?_⟩
 · rw [get_settle hv, Hp.get_set_ne _ _ _ _ (by omega), Hp.get_push_ne _ _ _ (by simp), Hp.get_push_ne _ _ _ (by simp)]
   exact Hp.get_push_self _ _
 · rw [get_settle hv, Hp.get_set_ne _ _ _ _ (by omega), Hp.get_push_ne _ _ _ (by simp)]
   exact Hp.get_push_self _ _
 · rw [get_settle hv, Hp.get_set_ne _ _ _ _ (by omega)]
   exact Hp.get_push_self _ _
 · rw [n_settle hv]; refine ⟨?_, ?_, ?_⟩ <;> simp
 · refine kp_settle (by simp; omega) (fun b hb => ?_) (by simp)
   rw [Hp.get_set_ne _ _ _ _ (by omega), Hp.get_push_ne _ _ _ (by simp; omega), Hp.get_push_ne _ _ _ (by simp; omega), Hp.get_push_ne _ _ _ (by simp; omega), Hp.get_push_ne _ _ _ (by simp; omega), Hp.get_withLow]
theorem rwhens_spec (N : Nat) (ho : orc 106 = none) (h : AH) : ∃ v1 h1, acall orc T 106 [] h = some (v1, h1) ∧ (∃ b, v1 = .slice (some (b, 0)) 6 (.exact 6) ∧ h1.get b = some (.cells (whenL.map AV.str) false) ∧ b < h1.n ∧ Kp N h h1) := by
 refine acall_facts (R := fun v1 h1 => ∃ b, v1 = .slice (some (b, 0)) 6 (.exact 6) ∧ h1.get b = some (.cells (whenL.map AV.str) false) ∧ b < h1.n ∧ Kp N h h1) ho tbl106 ?_
 simp only [settle_fst1]
 refine GD ?_
 repeat' first | (simp only [opsB, ctlB, Nat.reduceEqDiff, Nat.reduceBEq, Nat.reduceBNe, Int.reduceBEq, Int.reduceBNe, Int.reduceLT, Int.reduceLE, Int.reduceEq, CO.quiet, CO.reads, AV.one, AV.cells, CA.ev, abin, aint, aun, isShift, readVar, readCell, readCells, writeCells, fillA, reduceIte, Nat.reduceAdd, Nat.reduceSub, Nat.reduceLT, Nat.reduceLeDiff, resAll, resOne, AV.under, AV.unders, cut, put, DoneK, Kept, KeptOne, closeOp, op_litS, fillA, Fs.reps, Fs.over, List.length_cons, List.length_nil, List.replicate, List.append, List.take, List.drop, *]) | (refine GuardK_split (fun hb => ?_) (fun hb => ?_)) | (refine CondK_split (fun hb => ?_) (fun hb => ?_)) | (refine CodeK_regionD _ ?_) | (refine DGuardK_split (fun hb => ?_) (fun hb => ?_))
 have hv : AV.under h.n (AV.slice (some (h.n, 0)) 6 (Cap.exact 6)) = false := by simp [AV.under]
 refine ⟨_, rfl, h.n, rfl, ?_, ?_, ?_⟩
 · rw [get_settle hv]
   exact Hp.get_push_self _ _
 · rw [n_settle hv]; simp
 · refine kp_settle (by simp) (fun b hb => ?_) (by simp)
   rw [Hp.get_push_ne _ _ _ (by simp; omega), Hp.get_withLow]
theorem rverbs_spec (N : Nat) (ho : orc 107 = none) (h : AH) : ∃ v1 h1, acall orc T 107 [] h = some (v1, h1) ∧ (∃ b, v1 = .slice (some (b, 0)) 19 (.exact 19) ∧ h1.get b = some (.cells (verbL.map AV.str) false) ∧ b < h1.n ∧ Kp N h h1) := by
 refine acall_facts (R := fun v1 h1 => ∃ b, v1 = .slice (some (b, 0)) 19 (.exact 19) ∧ h1.get b = some (.cells (verbL.map AV.str) false) ∧ b < h1.n ∧ Kp N h h1) ho tbl107 ?_
 simp only [settle_fst1]
 refine GD ?_
 repeat' first | (simp only [opsB, ctlB, Nat.reduceEqDiff, Nat.reduceBEq, Nat.reduceBNe, Int.reduceBEq, Int.reduceBNe, Int.reduceLT, Int.reduceLE, Int.reduceEq, CO.quiet, CO.reads, AV.one, AV.cells, CA.ev, abin, aint, aun, isShift, readVar, readCell, readCells, writeCells, fillA, reduceIte, Nat.reduceAdd, Nat.reduceSub, Nat.reduceLT, Nat.reduceLeDiff, resAll, resOne, AV.under, AV.unders, cut, put, DoneK, Kept, KeptOne, closeOp, op_litS, fillA, Fs.reps, Fs.over, List.length_cons, List.length_nil, List.replicate, List.append, List.take, List.drop, *]) | (refine GuardK_split (fun hb => ?_) (fun hb => ?_)) | (refine CondK_split (fun hb => ?_) (fun hb => ?_)) | (refine CodeK_regionD _ ?_) | (refine DGuardK_split (fun hb => ?_) (fun hb => ?_))
 have hv : AV.under h.n (AV.slice (some (h.n, 0)) 19 (Cap.exact 19)) = false := by simp [AV.under]
 refine ⟨_, rfl, h.n, rfl, ?_, ?_, ?_⟩
 · rw [get_settle hv]
   exact Hp.get_push_self _ _
 · rw [n_settle hv]; simp
 · refine kp_settle (by simp) (fun b hb => ?_) (by simp)
   rw [Hp.get_push_ne _ _ _ (by simp; omega), Hp.get_withLow]
theorem rwhoms_spec (N : Nat) (ho : orc 108 = none) (h : AH) : ∃ v1 h1, acall orc T 108 [] h = some (v1, h1) ∧ (∃ b, v1 = .slice (some (b, 0)) 10 (.exact 10) ∧ h1.get b = some (.cells (whomL.map AV.str) false) ∧ b < h1.n ∧ Kp N h h1) := by
 refine acall_facts (R := fun v1 h1 => ∃ b, v1 = .slice (some (b, 0)) 10 (.exact 10) ∧ h1.get b = some (.cells (whomL.map AV.str) false) ∧ b < h1.n ∧ Kp N h h1) ho tbl108 ?_
 simp only [settle_fst1]
 refine GD ?_
 repeat' first | (simp only [opsB, ctlB, Nat.reduceEqDiff, Nat.reduceBEq, Nat.reduceBNe, Int.reduceBEq, Int.reduceBNe, Int.reduceLT, Int.reduceLE, Int.reduceEq, CO.quiet, CO.reads, AV.one, AV.cells, CA.ev, abin, aint, aun, isShift, readVar, readCell, readCells, writeCells, fillA, reduceIte, Nat.reduceAdd, Nat.reduceSub, Nat.reduceLT, Nat.reduceLeDiff, resAll, resOne, AV.under, AV.unders, cut, put, DoneK, Kept, KeptOne, closeOp, op_litS, fillA, Fs.reps, Fs.over, List.length_cons, List.length_nil, List.replicate, List.append, List.take, List.drop, *]) | (refine GuardK_split (fun hb => ?_) (fun hb => ?_)) | (refine CondK_split (fun hb => ?_) (fun hb => ?_)) | (refine CodeK_regionD _ ?_) | (refine DGuardK_split (fun hb => ?_) (fun hb => ?_))
 have hv : AV.under h.n (AV.slice (some (h.n, 0)) 10 (Cap.exact 10)) = false := by simp [AV.under]
 refine ⟨_, rfl, h.n, rfl, ?_, ?_, ?_⟩
 · rw [get_settle hv]
   exact Hp.get_push_self _ _
 · rw [n_settle hv]; simp
 · refine kp_settle (by simp) (fun b hb => ?_) (by simp)
   rw [Hp.get_push_ne _ _ _ (by simp; omega), Hp.get_withLow]
def optL (b : Bool) (x : List UInt8) : List (List UInt8) := if b = true then [x] else []
def optT (b : Bool) (x : List UInt8) : List UInt8 := if b = true then 32 :: x else []
theorem join_snoc : ∀ (L : List (List UInt8)) (x : List UInt8), L ≠ [] → Lib.join (L ++ [x]) [32] = Lib.join L [32] ++ 32 :: x
 | a :: r, x, _ => by rw [List.cons_append, Lib.join_cons, Lib.join_cons]; simp [Lib.joinTail]
theorem join_opt {L : List (List UInt8)} (b : Bool) (x : List UInt8) (h : L ≠ []) : Lib.join (L ++ optL b x) [32] = Lib.join L [32] ++ optT b x := by
 cases b
 · simp [optL, optT]
 · simp [optL, optT, join_snoc L x h]
theorem opt_ne {L : List (List UInt8)} (b : Bool) (x : List UInt8) (h : L ≠ []) : L ++ optL b x ≠ [] := by simp [h]
theorem getD_len {l : List (List UInt8)} {n : Nat} (h : l.all (fun x => decide (x.length ≤ n)) = true) (i : Nat) : (l.getD i []).length ≤ n := by
 rw [List.getD_eq_getElem?_getD]
 cases hx : l[i]? with
 | none => simp
 | some x => simpa using List.all_eq_true.1 h x (List.mem_of_getElem? hx)
def W0 (i j l : Nat) : List (List UInt8) := [whenL.getD i [], verbL.getD j [], whomL.getD l []]
def T0 (i j l : Nat) : List UInt8 := whenL.getD i [] ++ [32] ++ verbL.getD j [] ++ [32] ++ whomL.getD l []
theorem join_W0 (i j l : Nat) : Lib.join (W0 i j l) [32] = T0 i j l := by
 unfold W0 T0
 generalize whenL.getD i [] = a
 generalize verbL.getD j [] = b
 generalize whomL.getD l [] = c
 rw [Lib.join_cons]; simp [Lib.joinTail]
theorem T0_len (i j l : Nat) : (T0 i j l).length ≤ 32 := by
 have h1 := getD_len (l := whenL) (n := 10) (by decide) i
 have h2 := getD_len (l := verbL) (n := 10) (by decide) j
 have h3 := getD_len (l := whomL) (n := 10) (by decide) l
 unfold T0
 simp only [List.length_append, List.length_cons, List.length_nil]
 omega
theorem dig_len (c : Int) : (dig c).length ≤ 3 := by
 unfold dig natD
 split <;> split <;> simp
theorem sN_len (s : Int) : (sN s).length ≤ 10 := getD_len (by decide) _
theorem tN_len (s : Int) : (tN s).length ≤ 10 := getD_len (by decide) _
def W5 (i j l : Nat) (v m c s t k : Int) (nm : List UInt8) : List (List UInt8) := ((((W0 i j l ++ optL (uC v) (dig c)) ++ optL (uS v m) (sN s)) ++ optL (uT v m) (tN t)) ++ optL (uM v) (dig k)) ++ optL (uN v) nm
def T5 (i j l : Nat) (v m c s t k : Int) (nm : List UInt8) : List UInt8 := ((((T0 i j l ++ optT (uC v) (dig c)) ++ optT (uS v m) (sN s)) ++ optT (uT v m) (tN t)) ++ optT (uM v) (dig k)) ++ optT (uN v) nm
theorem W0_ne (i j l : Nat) : W0 i j l ≠ [] := by simp [W0]
theorem join_W5 (i j l : Nat) (v m c s t k : Int) (nm : List UInt8) : Lib.join (W5 i j l v m c s t k nm) [32] = T5 i j l v m c s t k nm := by
 unfold W5 T5
 have h0 := W0_ne i j l
 have h1 := opt_ne (uC v) (dig c) h0
 have h2 := opt_ne (uS v m) (sN s) h1
 have h3 := opt_ne (uT v m) (tN t) h2
 have h4 := opt_ne (uM v) (dig k) h3
 rw [join_opt _ _ h4, join_opt _ _ h3, join_opt _ _ h2, join_opt _ _ h1, join_opt _ _ h0, join_W0]
theorem optT_len (b : Bool) (x : List UInt8) {n : Nat} (h : b = true → x.length ≤ n) : (optT b x).length ≤ n + 1 := by
 cases b
 · simp [optT]
 · simpa [optT] using h rfl
theorem T5_len (i j l : Nat) (v m c s t k : Int) (nm : List UInt8) (h : uN v = true → nm.length ≤ 20) : (T5 i j l v m c s t k nm).length ≤ 100000 := by
 have h0 := T0_len i j l
 have h1 := optT_len (uC v) (dig c) fun _ => dig_len c
 have h2 := optT_len (uS v m) (sN s) fun _ => sN_len s
 have h3 := optT_len (uT v m) (tN t) fun _ => tN_len t
 have h4 := optT_len (uM v) (dig k) fun _ => dig_len k
 have h5 := optT_len (uN v) nm h
 unfold T5
 simp only [List.length_append]
 omega
theorem optL_len (b : Bool) (x : List UInt8) : (optL b x).length ≤ 1 := by cases b <;> simp [optL]
def txtP (w v m c s t k : Int) (nm : List UInt8) : List UInt8 := if chk w v m c s t k nm = 0 then T5 (w - 1).toNat (v - 1).toNat (m - 1).toNat v m c s t k nm else []
theorem chk_zero {w v m c s t k : Int} {nm : List UInt8} (h : chk w v m c s t k nm = 0) : (1 ≤ w ∧ w ≤ 6 ∧ 1 ≤ v ∧ v ≤ 19 ∧ 1 ≤ m ∧ m ≤ 10) ∧ (uC v = true → -99 ≤ c ∧ c ≤ 99) ∧ (uS v m = true → 1 ≤ s ∧ s ≤ 6) ∧ (uT v m = true → 1 ≤ t ∧ t ≤ 8) ∧ (uM v = true → 1 ≤ k ∧ k ≤ 4) ∧ (uN v = true → nm.length ≤ 20) := by
 unfold chk at h
 cases hb1 : bad1 w v m
 case true => simp [hb1] at h
 cases hb2 : bad2 w v m
 case true => simp [hb1, hb2] at h
 cases hb3 : aboutB w v m
 case false => simp [hb1, hb2, hb3] at h
 cases hb4 : bad4 v c
 case true => simp [hb1, hb2, hb3, hb4] at h
 cases hb5 : bad5 v m s t k
 case true => simp [hb1, hb2, hb3, hb4, hb5] at h
 cases hb6 : bad6 v nm
 case true => simp [hb1, hb2, hb3, hb4, hb5, hb6] at h
 clear h hb2 hb3
 refine ⟨?_, fun hu => ?_, fun hu => ?_, fun hu => ?_, fun hu => ?_, fun hu => ?_⟩
 · simp only [bad1, Bool.or_eq_false_iff, decide_eq_false_iff_not] at hb1
   omega
 · simp only [bad4, withinB, hu, if_true, Bool.or_eq_false_iff, Bool.not_eq_false', Bool.and_eq_true, decide_eq_true_eq] at hb4
   have h1 := hb4.1
   have h2 : -99 ≤ lowC v := by unfold lowC; split <;> (try split) <;> (try split) <;> omega
   have h3 : highC v ≤ 99 := by unfold highC; split <;> omega
   omega
 · simp only [bad5, withinB, hu, if_true, Bool.or_eq_false_iff, Bool.not_eq_false', Bool.and_eq_true, decide_eq_true_eq] at hb5
   exact hb5.1.1
 · simp only [bad5, withinB, hu, if_true, Bool.or_eq_false_iff, Bool.not_eq_false', Bool.and_eq_true, decide_eq_true_eq] at hb5
   exact hb5.1.2
 · simp only [bad5, withinB, hu, if_true, Bool.or_eq_false_iff, Bool.not_eq_false', Bool.and_eq_true, decide_eq_true_eq] at hb5
   exact hb5.2
 · simp only [bad6, hu, Bool.or_eq_false_iff, Bool.true_and, Bool.not_eq_false'] at hb6
   have := hb6.2
   simp only [isName, Bool.and_eq_true, decide_eq_true_eq] at this
   exact this.1.1.2
structure Hidden (p : Prop) : Prop where
 out : p
theorem CondK_tm {call : Rec} {Q : AEx → List AV → AH → Prop} {st : List Fs.Fr} {tm : List AV} {h : AH} {a b : CC} {x : AV} (R : List AV → AH → Prop) (hR : R tm h) (hk : ∀ tm' h', R tm' h' → CondK call Q x a b st tm' h') : CondK call Q x a b st tm h := hk tm h hR
def RowL (N : Nat) (h : AH) (v : AV) (L : List (List UInt8)) : Prop :=
 ∃ b cap, N < b ∧ b < h.n ∧ (cap = .opn 1 ∨ cap = .exact L.length) ∧ v = .slice (some (b, 0)) L.length cap ∧ h.get b = some (.cells (L.map AV.str) false) ∧ L ≠ []
theorem cut_iff {c : List AV} {o n : Nat} {xs : List AV} : Fs.cut c o n = some xs ↔ o + n ≤ c.length ∧ (c.drop o).take n = xs := by
 unfold Fs.cut
 by_cases hc : o + n ≤ c.length
 · simp [hc]
 · simp [hc]
def iaddrAV (n esz : Nat) (v i : AV) (h : AH) : Option (AV × AH) :=
 match v, i with
 | .ptr (some (b, o)), .int _ j => if 0 ≤ j ∧ j < n then some (.ptr (some (b, o + j.toNat * esz)), h) else none
 | _, _ => none
theorem op_iaddrA {call : Rec} {tm : List AV} {h : AH} (n esz : Nat) (x i : CA) : runOp call (.iaddrA n esz x i) tm h = iaddrAV n esz (x.ev tm) (i.ev tm) h := by
 simp only [runOp, CO.quiet, if_true, quietRun, iaddrAV]
 generalize x.ev tm = v
 generalize i.ev tm = u
 cases v <;> first | rfl | skip
 rename_i a
 cases a <;> first | rfl | skip
 cases u <;> first | rfl | skip
 simp only
 split <;> rfl
theorem iaddrA0 (b o : Nat) (h : AH) : iaddrAV 3 1 (.ptr (some (b, o))) (.int .i64 0) h = some (.ptr (some (b, o)), h) := rfl
theorem iaddrA1 (b o : Nat) (h : AH) : iaddrAV 3 1 (.ptr (some (b, o))) (.int .i64 1) h = some (.ptr (some (b, o + 1)), h) := rfl
theorem iaddrA2 (b o : Nat) (h : AH) : iaddrAV 3 1 (.ptr (some (b, o))) (.int .i64 2) h = some (.ptr (some (b, o + 2)), h) := rfl
theorem RowL.push {N : Nat} {h : AH} {v : AV} {L : List (List UInt8)} (r : RowL N h v L) (c : Blk) : RowL N (h.push c) v L := by
 obtain ⟨b, cap, h1, h2, h3, h4, h5, h6⟩ := r
 exact ⟨b, cap, h1, by simp; omega, h3, h4, by rw [Hp.get_push_ne _ _ _ (by omega), h5], h6⟩
theorem app_row {N : Nat} {h : AH} {bx : Nat} {v : AV} {x : List UInt8} {R : List (List UInt8)} (hf : RowL N h v R) (hN : N < h.n) (hl2 : R.length ≤ 1000) (hbx : h.get bx = some (.cells [.str x] false)) :
    ∃ v' h', appendRun 1 16 v (.slice (some (bx, 0)) 1 (.exact 1)) h = some (v', h') ∧ (RowL N h' v' (R ++ [x]) ∧ h.n ≤ h'.n ∧ (∀ b, b ≤ N → h'.get b = h.get b) ∧ (N ≤ h.low → N ≤ h'.low)) := by
 have e1 : lenOf (.slice (some (bx, 0)) 1 (.exact 1)) = some 1 := rfl
 have e2 : elemsOf 1 h (.slice (some (bx, 0)) 1 (.exact 1)) = some [.str x] := by
  simp [elemsOf, readCells, hbx, Fs.cut]
 obtain ⟨b, cap, h2, h3, h4, rfl, h5, hne⟩ := hf
 have hp : 0 < R.length := List.length_pos_iff.2 hne
 have eold : ∀ cp, elemsOf 1 h (.slice (some (b, 0)) R.length cp) = some (R.map AV.str) := fun cp => by
  unfold elemsOf
  dsimp only
  rw [if_neg (by omega)]
  simp only [readCells, h5, Nat.mul_one]
  exact cut_iff.2 ⟨by simp, by rw [List.drop_zero, List.take_of_length_le (by simp)]⟩
 have em : (R.map AV.str) ++ [AV.str x] = (R ++ [x]).map AV.str := by simp
 rcases h4 with rfl | rfl
 · refine ⟨_, (h.set b .dead).push (.cells ((R ++ [x]).map AV.str) false), ?_, ⟨h.n, .opn 1, hN, by simp, .inl rfl, rfl, by rw [show h.n = (h.set b .dead).n from rfl]; exact Hp.get_push_self _ _, by simp⟩, by simp, fun b' hb' => ?_, fun hl => by simp; omega⟩
   · unfold appendRun
     simp only [e1, e2, Option.bind_some, appendCore, eold, if_true, h5, Nat.zero_add, Nat.mul_one, List.all_cons, List.all_nil, AV.one, Bool.and_self, and_self, List.length_map]
     rw [if_neg (by omega), if_neg (by omega), if_pos ⟨by omega, by omega⟩, em, List.length_append]
     simp only [Hp.n_set, List.length_cons, List.length_nil, List.length_map, and_true]
   · rw [Hp.get_push_ne _ _ _ (by simp; omega), Hp.get_set_ne _ _ _ _ (by omega)]
 · refine ⟨_, h.push (.cells ((R ++ [x]).map AV.str) false), ?_, ⟨h.n, .opn 1, hN, by simp, .inl rfl, rfl, Hp.get_push_self _ _, by simp⟩, by simp, fun b' hb' => Hp.get_push_ne _ _ _ (by omega), fun hl => hl⟩
   unfold appendRun
   simp only [e1, e2, Option.bind_some, appendCore, eold]
   rw [if_neg (by omega), if_pos ⟨by omega, by omega⟩, em, List.length_append]
   simp only [List.length_cons, List.length_nil]
structure PrI (h0 : AH) (pc : List AV) (N : Nat) (b2 b3 b4 b5 : AV) (L : List (List UInt8)) (tm : List AV) (h : AH) : Prop where
 len : tm.length = 88
 t1 : tm.getD 1 AV.undef = .ptr (some (N, 0))
 t8 : tm.getD 8 AV.undef = b2
 t9 : tm.getD 9 AV.undef = b3
 t10 : tm.getD 10 AV.undef = b4
 t11 : tm.getD 11 AV.undef = b5
 row : RowL N h (tm.getD 6 AV.undef) L
 box : h.get N = some (.cells pc false)
 gr : Grown h0 h
 low : N ≤ h.low
 n : N < h.n
 g0 : h0.n ≤ N
structure RpI (h0 : AH) (pc : List AV) (N : Nat) (b2 b3 b4 b5 : AV) (X : List UInt8) (tm : List AV) (h : AH) : Prop where
 len : tm.length = 85
 t1 : tm.getD 1 AV.undef = .ptr (some (N, 0))
 t7 : tm.getD 7 AV.undef = b2
 t8 : tm.getD 8 AV.undef = b3
 t9 : tm.getD 9 AV.undef = b4
 t10 : tm.getD 10 AV.undef = b5
 t5 : tm.getD 5 AV.undef = .str X
 box : h.get N = some (.cells pc false)
 gr : Grown h0 h
 low : N ≤ h.low
 n : N < h.n
theorem wrap_u8m {i : Nat} (h : i < 200) : IntKind.wrap .u8 ((i : Int) + 1 - 1) = (i : Int) := by
 have e3 : IntKind.bits .u8 = 8 := rfl
 have e4 : IntKind.signed .u8 = false := rfl
 have hp : (2 : Int) ^ 8 = 256 := by decide
 unfold IntKind.wrap
 simp only [e3, e4, Bool.false_and, hp, Bool.false_eq_true, if_false]
 omega
theorem print_spec (ho : ∀ f, f ∈ [43, 101, 37, 89, 90, 91, 92, 93, 94, 95, 96, 97, 132, 133, 134] → orc f = none) (ht : Trims orc) {h0 : AH} (hF : Flds orc h0) (hJ : Joins orc) (hT : Told orc h0) (w v m c s t k : Int) (nm : List UInt8) {h : AH} (hg : Grown h0 h) :
    acall orc T 43 [.agg (part w v m c s t k nm)] h = some (.tuple [.str (txtP w v m c s t k nm), .int .i64 (chk w v m c s t k nm)], h) := by
 refine acall_sym (ho _ (by simp)) tbl43 ?_
 have c1 := check_spec (orc := orc) (fun f hf => ho f (by revert hf; simp only [List.mem_cons, List.mem_nil_iff, or_false]; intro hf; omega)) ht w v m c s t k nm
 by_cases hc : chk w v m c s t k nm = 0
 case neg =>
  have eT : txtP w v m c s t k nm = [] := by unfold txtP; rw [if_neg hc]
  have e1 : (chk w v m c s t k nm != 0) = true := by simpa using hc
  rw [eT]
  clear hF hJ hT eT hc
  generalize chk w v m c s t k nm = X at *
  unfold part at c1 ⊢
  refine GD ?_
  (have fct := Fj @c1 @e1; (repeat' first | refine A_walk ?_ | exact trivial | refine GuardK_split (fun hb => ?_) (fun hb => ?_) | refine CondK_split (fun hb => ?_) (fun hb => ?_) | refine CodeK_regionD _ ?_ | refine DGuardK_split (fun hb => ?_) (fun hb => ?_)); all_goals try clear fct)
 case pos =>
 have eT : txtP w v m c s t k nm = T5 (w - 1).toNat (v - 1).toNat (m - 1).toNat v m c s t k nm := by unfold txtP; rw [if_pos hc]
 obtain ⟨hb, hC, hS, hU, hM, hN⟩ := chk_zero hc
 obtain ⟨i, hi, ew⟩ : ∃ i : Nat, i < 6 ∧ w = (i : Int) + 1 := ⟨(w - 1).toNat, by omega, by omega⟩
 obtain ⟨j, hj, ev⟩ : ∃ j : Nat, j < 19 ∧ v = (j : Int) + 1 := ⟨(v - 1).toNat, by omega, by omega⟩
 obtain ⟨l, hl, em⟩ : ∃ l : Nat, l < 10 ∧ m = (l : Int) + 1 := ⟨(m - 1).toNat, by omega, by omega⟩
 rw [eT, show (w - 1).toNat = i by omega, show (v - 1).toNat = j by omega, show (m - 1).toNat = l by omega, hc, ← join_W5]
 rw [hc] at c1
 have hlen := T5_len i j l v m c s t k nm hN
 rw [← join_W5] at hlen
 clear eT hb hc
 have w1 : IntKind.wrap .u8 (w - 1) = (i : Int) := by rw [ew]; exact wrap_u8m (by omega)
 have w2 : IntKind.wrap .u8 (v - 1) = (j : Int) := by rw [ev]; exact wrap_u8m (by omega)
 have w3 : IntKind.wrap .u8 (m - 1) = (l : Int) := by rw [em]; exact wrap_u8m (by omega)
 clear ew ev em
 have c2 := uses_spec (orc := orc) (ho _ (by simp)) v m
 obtain ⟨B1, hB1⟩ : ∃ B, AV.bool (uC v) = B := ⟨_, rfl⟩
 obtain ⟨B2, hB2⟩ : ∃ B, AV.bool (uS v m) = B := ⟨_, rfl⟩
 obtain ⟨B3, hB3⟩ : ∃ B, AV.bool (uT v m) = B := ⟨_, rfl⟩
 obtain ⟨B4, hB4⟩ : ∃ B, AV.bool (uM v) = B := ⟨_, rfl⟩
 obtain ⟨B5, hB5⟩ : ∃ B, AV.bool (uN v) = B := ⟨_, rfl⟩
 rw [hB1, hB2, hB3, hB4, hB5] at c2
 obtain ⟨pc, hpc⟩ : ∃ pc, part w v m c s t k nm = pc := ⟨_, rfl⟩
 unfold part at c1 ⊢
 refine GD ?_
 (have fct := @c1; (repeat' first | refine A_walk ?_ | exact trivial | refine GuardK_split (fun hb => ?_) (fun hb => ?_) | refine CondK_split (fun hb => ?_) (fun hb => ?_) | refine CodeK_regionD _ ?_ | refine DGuardK_split (fun hb => ?_) (fun hb => ?_)); all_goals try clear fct)
 refine ResK_ex (words_spec h.n (ho _ (by simp)) hF ((hg.low _).push _)) fun v1 H1 hL => ?_
 obtain ⟨b1, b2, b3, rfl, ⟨g1, g2, g3⟩, ⟨n1, n2, n3⟩, kp⟩ := hL
 have gp := kp.get h.n (by simp)
 rw [show (Hp.push (Hp.withLow h h.n) (Blk.cells [.int .u8 w, .int .u8 v, .int .u8 m, .int .i64 c, .int .u8 s, .int .u8 t, .int .u8 k, .str nm] false)).get h.n = some (Blk.cells [.int .u8 w, .int .u8 v, .int .u8 m, .int .i64 c, .int .u8 s, .int .u8 t, .int .u8 k, .str nm] false) from Hp.get_push_self _ _] at gp
 have lowH : h.n ≤ H1.low := kp.low (by simp) (by simp)
 have grH : Grown h0 H1 := Grown.kp ((hg.low _).push _) kp
 have nH : h.n < H1.n := by have := kp.n; simp at this; omega
 have g00 := hg.1
 clear kp
 have a1 := fun (hh : AH) => iaddrV_nat (h := hh) (esz := 1) (b := b1) (o := 0) (c := .exact 6) (k := .u8) hi
 have a2 := fun (hh : AH) => iaddrV_nat (h := hh) (esz := 1) (b := b2) (o := 0) (c := .exact 19) (k := .u8) hj
 have a3 := fun (hh : AH) => iaddrV_nat (h := hh) (esz := 1) (b := b3) (o := 0) (c := .exact 10) (k := .u8) hl
 have q1 := word_at (l := whenL) (i := i) hi
 have q2 := word_at (l := verbL) (i := j) hj
 have q3 := word_at (l := whomL) (i := l) hl
 have z1 : (b1 = H1.n) = False := by simp; omega
 have z2 : (b2 = H1.n) = False := by simp; omega
 have z3 : (b3 = H1.n) = False := by simp; omega
 have z4 : (h.n = H1.n) = False := by simp; omega
 have z5 : (h.n = H1.n + 1) = False := by simp; omega
 have o3 : ∀ a b c d e f : AV, Fs.over [a, b, c] 0 [d, e, f] = [d, e, f] := fun _ _ _ _ _ _ => rfl
 have r3 : ∀ a : AV, Fs.reps [a] 3 = [a, a, a] := fun _ => rfl
 have p0 : ∀ a b c y : AV, Fs.over [a, b, c] 0 [y] = [y, b, c] := fun _ _ _ _ => rfl
 have p1 : ∀ a b c y : AV, Fs.over [a, b, c] 1 [y] = [a, y, c] := fun _ _ _ _ => rfl
 have p2 : ∀ a b c y : AV, Fs.over [a, b, c] 2 [y] = [a, b, y] := fun _ _ _ _ => rfl
 have KEEP : Hidden ((uC v = true → -99 ≤ c ∧ c ≤ 99) ∧ (uS v m = true → 1 ≤ s ∧ s ≤ 6) ∧ (uT v m = true → 1 ≤ t ∧ t ≤ 8) ∧ (uM v = true → 1 ≤ k ∧ k ≤ 4)) := ⟨hC, hS, hU, hM⟩
 have KB : Hidden (AV.bool (uC v) = B1 ∧ AV.bool (uS v m) = B2 ∧ AV.bool (uT v m) = B3 ∧ AV.bool (uM v) = B4 ∧ AV.bool (uN v) = B5) := ⟨hB1, hB2, hB3, hB4, hB5⟩
 have KJ : Hidden (Joins orc ∧ Told orc h0 ∧ (Lib.join (W5 i j l v m c s t k nm) [32]).length ≤ 100000) := ⟨hJ, hT, hlen⟩
 have KL : Hidden (h0.n ≤ h.n ∧ h.n ≤ H1.low ∧ Grown h0 H1 ∧ h.n < H1.n) := ⟨g00, lowH, grH, nH⟩
 have KP : Hidden (part w v m c s t k nm = pc) := ⟨hpc⟩
 clear hF hJ hT hB1 hB2 hB3 hB4 hB5 hi hj hl n1 n2 n3 hC hS hU hM hN hlen c1 g00 lowH grH nH hg hpc
 (have fct := Fj @w1 (Fj @w2 (Fj @w3 (Fj @a1 (Fj @a2 (Fj @a3 (Fj @q1 (Fj @q2 (Fj @q3 (Fj @Nat.mul_one (Fj @op_litS (Fj @o3 (Fj @r3 (Fj @p0 (Fj @p1 (Fj @p2 (Fj @c2 (Fj @op_iaddrA (Fj @iaddrA0 (Fj @iaddrA1 @iaddrA2))))))))))))))))))); (repeat' first | refine A_walk ?_ | exact trivial | refine GuardK_split (fun hb => ?_) (fun hb => ?_) | refine CondK_split (fun hb => ?_) (fun hb => ?_) | refine CodeK_regionD _ ?_ | refine DGuardK_split (fun hb => ?_) (fun hb => ?_)); all_goals try clear fct)
 clear w1 w2 w3 a1 a2 a3 q1 q2 q3 g1 g2 g3 p0 p1 p2 o3 r3 c2
 obtain ⟨g00, lowH, grH, nH⟩ := KL.out
 refine CondK_tm (PrI h0 pc h.n B2 B3 B4 B5 (W0 i j l)) ?_ (fun tm H I => ?_)
 · refine ⟨rfl, rfl, rfl, rfl, rfl, rfl, ⟨H1.n + 1, .exact 3, by omega, by simp, .inr rfl, rfl, Hp.get_push_self _ _, W0_ne i j l⟩, ?_, ((grH.push _).set (by omega) _).push _, by simp; omega, by simp; omega, g00⟩
   rw [Hp.get_push_ne _ _ _ (by simp; omega), Hp.get_set_ne _ _ _ _ (by omega), Hp.get_push_ne _ _ _ (by omega), gp, ← KP.out]
   rfl
 clear gp z1 z2 z3 z4 z5 KL g00 lowH grH nH
 clear b1 b2 b3 H1
 have oo : ∀ a y : AV, Fs.over [a] 0 [y] = [y] := fun _ _ => rfl
 have r1 : ∀ a : AV, Fs.reps [a] 1 = [a] := fun _ => rfl
 unfold W5 at KJ ⊢
 have wk : (uM v = true) → IntKind.wrap .i64 k = k := fun hb => wrap_byte (by have := (KEEP.out.2.2.2 hb).1; omega) (by have := (KEEP.out.2.2.2 hb).2; omega)
 have KW : Hidden (uM v = true → IntKind.wrap .i64 k = k) := ⟨wk⟩
 clear wk
 rw [← KB.out.1]
 refine CondK_mid (PrI h0 pc h.n B2 B3 B4 B5 (W0 i j l ++ optL (uC v) (dig c))) (fun hb => ?_) (fun hb => ?_) (fun tm' H' I' => ?_)
 · have eL : W0 i j l ++ optL (uC v) (dig c) = (W0 i j l) ++ [dig c] := by rw [show optL (uC v) (dig c) = [dig c] from if_pos hb]
   rw [eL]
   have hh := KEEP.out.1 hb
   clear eL hb
   have el := I.len
   have e1 := I.t1
   have e8 := I.t8
   have e9 := I.t9
   have e10 := I.t10
   have e11 := I.t11
   have row := I.row
   obtain ⟨al, e6⟩ : ∃ al, tm.getD 6 AV.undef = al := ⟨_, rfl⟩
   rw [e6] at row
   have gb := I.box
   rw [← KP.out] at gb
   unfold part at gb
   obtain ⟨R, hR⟩ : ∃ R, W0 i j l = R := ⟨_, rfl⟩
   have hRl : R.length ≤ 1000 := by
    rw [← hR]
    have l1 := optL_len (uC v) (dig c)
    have l2 := optL_len (uS v m) (sN s)
    have l3 := optL_len (uT v m) (tN t)
    have l4 := optL_len (uM v) (dig k)
    simp only [W0, List.length_append, List.length_cons, List.length_nil]
    omega
   rw [hR] at row ⊢
   have KR : Hidden (R.length ≤ 1000) := ⟨hRl⟩
   have KI : Hidden (Grown h0 H ∧ h.n ≤ H.low ∧ h.n < H.n ∧ h0.n ≤ h.n) := ⟨I.gr, I.low, I.n, I.g0⟩
   clear hR hRl
   (have fct := Fj @el (Fj @e1 (Fj @e6 @gb)); (repeat' first | refine A_walk ?_ | exact trivial | refine GuardK_split (fun hb => ?_) (fun hb => ?_) | refine CondK_split (fun hb => ?_) (fun hb => ?_) | refine CodeK_regionD _ ?_ | refine DGuardK_split (fun hb => ?_) (fun hb => ?_)); all_goals try clear fct)
   refine ResK_eq (KJ.out.2.1.itoa c _ I.gr hh.1 hh.2) ?_
   clear I
   (have fct := Fj @el (Fj @e1 (Fj @e6 (Fj @gb (Fj @op_litS (Fj @oo (Fj @r1 @op_append)))))); (repeat' first | refine A_walk ?_ | exact trivial | refine GuardK_split (fun hb => ?_) (fun hb => ?_) | refine CondK_split (fun hb => ?_) (fun hb => ?_) | refine CodeK_regionD _ ?_ | refine DGuardK_split (fun hb => ?_) (fun hb => ?_)); all_goals try clear fct)
   obtain ⟨ig, il, inn, ig0⟩ := KI.out
   refine ResK_ex (app_row (row.push _) (by simp; omega) KR.out (Hp.get_push_self _ _)) fun v2 H2 hL => ?_
   obtain ⟨row2, n2, k2, l2⟩ := hL
   have n2' : H.n + 1 ≤ H2.n := by simpa using n2
   have K2 : Hidden (RowL h.n H2 v2 (R ++ [dig c])) := ⟨row2⟩
   clear row2 row
   (have fct := Fj @el (Fj @e1 (Fj @e8 (Fj @e9 (Fj @e10 @e11)))); (repeat' first | refine A_walk ?_ | exact trivial | refine GuardK_split (fun hb => ?_) (fun hb => ?_) | refine CondK_split (fun hb => ?_) (fun hb => ?_) | refine CodeK_regionD _ ?_ | refine DGuardK_split (fun hb => ?_) (fun hb => ?_)); all_goals try clear fct)
   refine ⟨by simp only [List.length_set, el], by simp only [fsTm, Nat.reduceBEq, Nat.reduceLT, el, e1], by simp only [fsTm, Nat.reduceBEq, Nat.reduceLT, el, e8], by simp only [fsTm, Nat.reduceBEq, Nat.reduceLT, el, e9], by simp only [fsTm, Nat.reduceBEq, Nat.reduceLT, el, e10], by simp only [fsTm, Nat.reduceBEq, Nat.reduceLT, el, e11], by simp only [fsTm, Nat.reduceBEq, Nat.reduceLT, el]; exact K2.out, ?_, ⟨by have := ig.1; omega, fun b hb => ?_⟩, l2 (by simpa using il), by omega, ig0⟩
   · rw [k2 _ (Nat.le_refl _), Hp.get_push_ne _ _ _ (by omega), gb, ← KP.out]; rfl
   · rw [k2 b (by omega), Hp.get_push_ne _ _ _ (by have := ig.1; omega), ig.2 b hb]
 · have eL : W0 i j l ++ optL (uC v) (dig c) = W0 i j l := by rw [show optL (uC v) (dig c) = [] from if_neg (by rw [hb]; exact Bool.false_ne_true), List.append_nil]
   rw [eL]
   clear eL hb
   have el := I.len
   have e1 := I.t1
   have e8 := I.t8
   have e9 := I.t9
   have e10 := I.t10
   have e11 := I.t11
   obtain ⟨R, hR⟩ : ∃ R, W0 i j l = R := ⟨_, rfl⟩
   have I2 := I
   rw [hR] at I2 ⊢
   have KI := Hidden.mk I2
   clear hR I I2
   (have fct := trivial; (repeat' first | refine A_walk ?_ | exact trivial | refine GuardK_split (fun hb => ?_) (fun hb => ?_) | refine CondK_split (fun hb => ?_) (fun hb => ?_) | refine CodeK_regionD _ ?_ | refine DGuardK_split (fun hb => ?_) (fun hb => ?_)); all_goals try clear fct)
   have I := KI.out
   exact I
 clear I
 have el := I'.len
 have e8 := I'.t8
 have e9 := I'.t9
 have e10 := I'.t10
 have e11 := I'.t11
 obtain ⟨R, hR⟩ : ∃ R, W0 i j l ++ optL (uC v) (dig c) = R := ⟨_, rfl⟩
 have KI : Hidden (PrI h0 pc h.n B2 B3 B4 B5 (W0 i j l ++ optL (uC v) (dig c)) tm' H') := ⟨I'⟩
 clear I' hR
 (have fct := Fj @el (Fj @e8 (Fj @e9 (Fj @e10 @e11))); (repeat' first | refine A_walk ?_ | exact trivial | refine GuardK_split (fun hb => ?_) (fun hb => ?_) | refine CondK_split (fun hb => ?_) (fun hb => ?_) | refine CodeK_regionD _ ?_ | refine DGuardK_split (fun hb => ?_) (fun hb => ?_)); all_goals try clear fct)
 have I := KI.out
 clear KI R el e8 e9 e10 e11
 clear tm H
 revert I
 generalize tm' = tm
 generalize H' = H
 intro I
 rw [← KB.out.2.1]
 refine CondK_mid (PrI h0 pc h.n B2 B3 B4 B5 (W0 i j l ++ optL (uC v) (dig c) ++ optL (uS v m) (sN s))) (fun hb => ?_) (fun hb => ?_) (fun tm' H' I' => ?_)
 · have eL : W0 i j l ++ optL (uC v) (dig c) ++ optL (uS v m) (sN s) = (W0 i j l ++ optL (uC v) (dig c)) ++ [sN s] := by rw [show optL (uS v m) (sN s) = [sN s] from if_pos hb]
   rw [eL]
   have hh := KEEP.out.2.1 hb
   clear eL hb
   have el := I.len
   have e1 := I.t1
   have e8 := I.t8
   have e9 := I.t9
   have e10 := I.t10
   have e11 := I.t11
   have row := I.row
   obtain ⟨al, e6⟩ : ∃ al, tm.getD 6 AV.undef = al := ⟨_, rfl⟩
   rw [e6] at row
   have gb := I.box
   rw [← KP.out] at gb
   unfold part at gb
   obtain ⟨R, hR⟩ : ∃ R, W0 i j l ++ optL (uC v) (dig c) = R := ⟨_, rfl⟩
   have hRl : R.length ≤ 1000 := by
    rw [← hR]
    have l1 := optL_len (uC v) (dig c)
    have l2 := optL_len (uS v m) (sN s)
    have l3 := optL_len (uT v m) (tN t)
    have l4 := optL_len (uM v) (dig k)
    simp only [W0, List.length_append, List.length_cons, List.length_nil]
    omega
   rw [hR] at row ⊢
   have KR : Hidden (R.length ≤ 1000) := ⟨hRl⟩
   have KI : Hidden (Grown h0 H ∧ h.n ≤ H.low ∧ h.n < H.n ∧ h0.n ≤ h.n) := ⟨I.gr, I.low, I.n, I.g0⟩
   clear hR hRl
   (have fct := Fj @el (Fj @e1 (Fj @e6 @gb)); (repeat' first | refine A_walk ?_ | exact trivial | refine GuardK_split (fun hb => ?_) (fun hb => ?_) | refine CondK_split (fun hb => ?_) (fun hb => ?_) | refine CodeK_regionD _ ?_ | refine DGuardK_split (fun hb => ?_) (fun hb => ?_)); all_goals try clear fct)
   refine ResK_eq (KJ.out.2.1.suit s _ I.gr hh.1 hh.2) ?_
   clear I
   (have fct := Fj @el (Fj @e1 (Fj @e6 (Fj @gb (Fj @op_litS (Fj @oo (Fj @r1 @op_append)))))); (repeat' first | refine A_walk ?_ | exact trivial | refine GuardK_split (fun hb => ?_) (fun hb => ?_) | refine CondK_split (fun hb => ?_) (fun hb => ?_) | refine CodeK_regionD _ ?_ | refine DGuardK_split (fun hb => ?_) (fun hb => ?_)); all_goals try clear fct)
   obtain ⟨ig, il, inn, ig0⟩ := KI.out
   refine ResK_ex (app_row (row.push _) (by simp; omega) KR.out (Hp.get_push_self _ _)) fun v2 H2 hL => ?_
   obtain ⟨row2, n2, k2, l2⟩ := hL
   have n2' : H.n + 1 ≤ H2.n := by simpa using n2
   have K2 : Hidden (RowL h.n H2 v2 (R ++ [sN s])) := ⟨row2⟩
   clear row2 row
   (have fct := Fj @el (Fj @e1 (Fj @e8 (Fj @e9 (Fj @e10 @e11)))); (repeat' first | refine A_walk ?_ | exact trivial | refine GuardK_split (fun hb => ?_) (fun hb => ?_) | refine CondK_split (fun hb => ?_) (fun hb => ?_) | refine CodeK_regionD _ ?_ | refine DGuardK_split (fun hb => ?_) (fun hb => ?_)); all_goals try clear fct)
   refine ⟨by simp only [List.length_set, el], by simp only [fsTm, Nat.reduceBEq, Nat.reduceLT, el, e1], by simp only [fsTm, Nat.reduceBEq, Nat.reduceLT, el, e8], by simp only [fsTm, Nat.reduceBEq, Nat.reduceLT, el, e9], by simp only [fsTm, Nat.reduceBEq, Nat.reduceLT, el, e10], by simp only [fsTm, Nat.reduceBEq, Nat.reduceLT, el, e11], by simp only [fsTm, Nat.reduceBEq, Nat.reduceLT, el]; exact K2.out, ?_, ⟨by have := ig.1; omega, fun b hb => ?_⟩, l2 (by simpa using il), by omega, ig0⟩
   · rw [k2 _ (Nat.le_refl _), Hp.get_push_ne _ _ _ (by omega), gb, ← KP.out]; rfl
   · rw [k2 b (by omega), Hp.get_push_ne _ _ _ (by have := ig.1; omega), ig.2 b hb]
 · have eL : W0 i j l ++ optL (uC v) (dig c) ++ optL (uS v m) (sN s) = W0 i j l ++ optL (uC v) (dig c) := by rw [show optL (uS v m) (sN s) = [] from if_neg (by rw [hb]; exact Bool.false_ne_true), List.append_nil]
   rw [eL]
   clear eL hb
   have el := I.len
   have e1 := I.t1
   have e8 := I.t8
   have e9 := I.t9
   have e10 := I.t10
   have e11 := I.t11
   obtain ⟨R, hR⟩ : ∃ R, W0 i j l ++ optL (uC v) (dig c) = R := ⟨_, rfl⟩
   have I2 := I
   rw [hR] at I2 ⊢
   have KI := Hidden.mk I2
   clear hR I I2
   (have fct := trivial; (repeat' first | refine A_walk ?_ | exact trivial | refine GuardK_split (fun hb => ?_) (fun hb => ?_) | refine CondK_split (fun hb => ?_) (fun hb => ?_) | refine CodeK_regionD _ ?_ | refine DGuardK_split (fun hb => ?_) (fun hb => ?_)); all_goals try clear fct)
   have I := KI.out
   exact ⟨by simp only [List.length_set, I.len], by simp only [fsTm, Nat.reduceBEq, Nat.reduceLT, I.len, I.t1], by simp only [fsTm, Nat.reduceBEq, Nat.reduceLT, I.len, I.t8], by simp only [fsTm, Nat.reduceBEq, Nat.reduceLT, I.len, I.t9], by simp only [fsTm, Nat.reduceBEq, Nat.reduceLT, I.len, I.t10], by simp only [fsTm, Nat.reduceBEq, Nat.reduceLT, I.len, I.t11], by simp only [fsTm, Nat.reduceBEq, Nat.reduceLT, I.len]; exact I.row, I.box, I.gr, I.low, I.n, I.g0⟩
 clear I
 have el := I'.len
 have e8 := I'.t8
 have e9 := I'.t9
 have e10 := I'.t10
 have e11 := I'.t11
 obtain ⟨R, hR⟩ : ∃ R, W0 i j l ++ optL (uC v) (dig c) ++ optL (uS v m) (sN s) = R := ⟨_, rfl⟩
 have KI : Hidden (PrI h0 pc h.n B2 B3 B4 B5 (W0 i j l ++ optL (uC v) (dig c) ++ optL (uS v m) (sN s)) tm' H') := ⟨I'⟩
 clear I' hR
 (have fct := Fj @el (Fj @e8 (Fj @e9 (Fj @e10 @e11))); (repeat' first | refine A_walk ?_ | exact trivial | refine GuardK_split (fun hb => ?_) (fun hb => ?_) | refine CondK_split (fun hb => ?_) (fun hb => ?_) | refine CodeK_regionD _ ?_ | refine DGuardK_split (fun hb => ?_) (fun hb => ?_)); all_goals try clear fct)
 have I := KI.out
 clear KI R el e8 e9 e10 e11
 clear tm H
 revert I
 generalize tm' = tm
 generalize H' = H
 intro I
 rw [← KB.out.2.2.1]
 refine CondK_mid (PrI h0 pc h.n B2 B3 B4 B5 (W0 i j l ++ optL (uC v) (dig c) ++ optL (uS v m) (sN s) ++ optL (uT v m) (tN t))) (fun hb => ?_) (fun hb => ?_) (fun tm' H' I' => ?_)
 · have eL : W0 i j l ++ optL (uC v) (dig c) ++ optL (uS v m) (sN s) ++ optL (uT v m) (tN t) = (W0 i j l ++ optL (uC v) (dig c) ++ optL (uS v m) (sN s)) ++ [tN t] := by rw [show optL (uT v m) (tN t) = [tN t] from if_pos hb]
   rw [eL]
   have hh := KEEP.out.2.2.1 hb
   clear eL hb
   have el := I.len
   have e1 := I.t1
   have e8 := I.t8
   have e9 := I.t9
   have e10 := I.t10
   have e11 := I.t11
   have row := I.row
   obtain ⟨al, e6⟩ : ∃ al, tm.getD 6 AV.undef = al := ⟨_, rfl⟩
   rw [e6] at row
   have gb := I.box
   rw [← KP.out] at gb
   unfold part at gb
   obtain ⟨R, hR⟩ : ∃ R, W0 i j l ++ optL (uC v) (dig c) ++ optL (uS v m) (sN s) = R := ⟨_, rfl⟩
   have hRl : R.length ≤ 1000 := by
    rw [← hR]
    have l1 := optL_len (uC v) (dig c)
    have l2 := optL_len (uS v m) (sN s)
    have l3 := optL_len (uT v m) (tN t)
    have l4 := optL_len (uM v) (dig k)
    simp only [W0, List.length_append, List.length_cons, List.length_nil]
    omega
   rw [hR] at row ⊢
   have KR : Hidden (R.length ≤ 1000) := ⟨hRl⟩
   have KI : Hidden (Grown h0 H ∧ h.n ≤ H.low ∧ h.n < H.n ∧ h0.n ≤ h.n) := ⟨I.gr, I.low, I.n, I.g0⟩
   clear hR hRl
   (have fct := Fj @el (Fj @e1 (Fj @e6 @gb)); (repeat' first | refine A_walk ?_ | exact trivial | refine GuardK_split (fun hb => ?_) (fun hb => ?_) | refine CondK_split (fun hb => ?_) (fun hb => ?_) | refine CodeK_regionD _ ?_ | refine DGuardK_split (fun hb => ?_) (fun hb => ?_)); all_goals try clear fct)
   refine ResK_eq (KJ.out.2.1.trait t _ I.gr hh.1 hh.2) ?_
   clear I
   (have fct := Fj @el (Fj @e1 (Fj @e6 (Fj @gb (Fj @op_litS (Fj @oo (Fj @r1 @op_append)))))); (repeat' first | refine A_walk ?_ | exact trivial | refine GuardK_split (fun hb => ?_) (fun hb => ?_) | refine CondK_split (fun hb => ?_) (fun hb => ?_) | refine CodeK_regionD _ ?_ | refine DGuardK_split (fun hb => ?_) (fun hb => ?_)); all_goals try clear fct)
   obtain ⟨ig, il, inn, ig0⟩ := KI.out
   refine ResK_ex (app_row (row.push _) (by simp; omega) KR.out (Hp.get_push_self _ _)) fun v2 H2 hL => ?_
   obtain ⟨row2, n2, k2, l2⟩ := hL
   have n2' : H.n + 1 ≤ H2.n := by simpa using n2
   have K2 : Hidden (RowL h.n H2 v2 (R ++ [tN t])) := ⟨row2⟩
   clear row2 row
   (have fct := Fj @el (Fj @e1 (Fj @e8 (Fj @e9 (Fj @e10 @e11)))); (repeat' first | refine A_walk ?_ | exact trivial | refine GuardK_split (fun hb => ?_) (fun hb => ?_) | refine CondK_split (fun hb => ?_) (fun hb => ?_) | refine CodeK_regionD _ ?_ | refine DGuardK_split (fun hb => ?_) (fun hb => ?_)); all_goals try clear fct)
   refine ⟨by simp only [List.length_set, el], by simp only [fsTm, Nat.reduceBEq, Nat.reduceLT, el, e1], by simp only [fsTm, Nat.reduceBEq, Nat.reduceLT, el, e8], by simp only [fsTm, Nat.reduceBEq, Nat.reduceLT, el, e9], by simp only [fsTm, Nat.reduceBEq, Nat.reduceLT, el, e10], by simp only [fsTm, Nat.reduceBEq, Nat.reduceLT, el, e11], by simp only [fsTm, Nat.reduceBEq, Nat.reduceLT, el]; exact K2.out, ?_, ⟨by have := ig.1; omega, fun b hb => ?_⟩, l2 (by simpa using il), by omega, ig0⟩
   · rw [k2 _ (Nat.le_refl _), Hp.get_push_ne _ _ _ (by omega), gb, ← KP.out]; rfl
   · rw [k2 b (by omega), Hp.get_push_ne _ _ _ (by have := ig.1; omega), ig.2 b hb]
 · have eL : W0 i j l ++ optL (uC v) (dig c) ++ optL (uS v m) (sN s) ++ optL (uT v m) (tN t) = W0 i j l ++ optL (uC v) (dig c) ++ optL (uS v m) (sN s) := by rw [show optL (uT v m) (tN t) = [] from if_neg (by rw [hb]; exact Bool.false_ne_true), List.append_nil]
   rw [eL]
   clear eL hb
   have el := I.len
   have e1 := I.t1
   have e8 := I.t8
   have e9 := I.t9
   have e10 := I.t10
   have e11 := I.t11
   obtain ⟨R, hR⟩ : ∃ R, W0 i j l ++ optL (uC v) (dig c) ++ optL (uS v m) (sN s) = R := ⟨_, rfl⟩
   have I2 := I
   rw [hR] at I2 ⊢
   have KI := Hidden.mk I2
   clear hR I I2
   (have fct := trivial; (repeat' first | refine A_walk ?_ | exact trivial | refine GuardK_split (fun hb => ?_) (fun hb => ?_) | refine CondK_split (fun hb => ?_) (fun hb => ?_) | refine CodeK_regionD _ ?_ | refine DGuardK_split (fun hb => ?_) (fun hb => ?_)); all_goals try clear fct)
   have I := KI.out
   exact ⟨by simp only [List.length_set, I.len], by simp only [fsTm, Nat.reduceBEq, Nat.reduceLT, I.len, I.t1], by simp only [fsTm, Nat.reduceBEq, Nat.reduceLT, I.len, I.t8], by simp only [fsTm, Nat.reduceBEq, Nat.reduceLT, I.len, I.t9], by simp only [fsTm, Nat.reduceBEq, Nat.reduceLT, I.len, I.t10], by simp only [fsTm, Nat.reduceBEq, Nat.reduceLT, I.len, I.t11], by simp only [fsTm, Nat.reduceBEq, Nat.reduceLT, I.len]; exact I.row, I.box, I.gr, I.low, I.n, I.g0⟩
 clear I
 have el := I'.len
 have e8 := I'.t8
 have e9 := I'.t9
 have e10 := I'.t10
 have e11 := I'.t11
 obtain ⟨R, hR⟩ : ∃ R, W0 i j l ++ optL (uC v) (dig c) ++ optL (uS v m) (sN s) ++ optL (uT v m) (tN t) = R := ⟨_, rfl⟩
 have KI : Hidden (PrI h0 pc h.n B2 B3 B4 B5 (W0 i j l ++ optL (uC v) (dig c) ++ optL (uS v m) (sN s) ++ optL (uT v m) (tN t)) tm' H') := ⟨I'⟩
 clear I' hR
 (have fct := Fj @el (Fj @e8 (Fj @e9 (Fj @e10 @e11))); (repeat' first | refine A_walk ?_ | exact trivial | refine GuardK_split (fun hb => ?_) (fun hb => ?_) | refine CondK_split (fun hb => ?_) (fun hb => ?_) | refine CodeK_regionD _ ?_ | refine DGuardK_split (fun hb => ?_) (fun hb => ?_)); all_goals try clear fct)
 have I := KI.out
 clear KI R el e8 e9 e10 e11
 clear tm H
 revert I
 generalize tm' = tm
 generalize H' = H
 intro I
 rw [← KB.out.2.2.2.1]
 refine CondK_mid (PrI h0 pc h.n B2 B3 B4 B5 (W0 i j l ++ optL (uC v) (dig c) ++ optL (uS v m) (sN s) ++ optL (uT v m) (tN t) ++ optL (uM v) (dig k))) (fun hb => ?_) (fun hb => ?_) (fun tm' H' I' => ?_)
 · have eL : W0 i j l ++ optL (uC v) (dig c) ++ optL (uS v m) (sN s) ++ optL (uT v m) (tN t) ++ optL (uM v) (dig k) = (W0 i j l ++ optL (uC v) (dig c) ++ optL (uS v m) (sN s) ++ optL (uT v m) (tN t)) ++ [dig k] := by rw [show optL (uM v) (dig k) = [dig k] from if_pos hb]
   rw [eL]
   have hh := KEEP.out.2.2.2 hb
   have wk := KW.out hb
   clear eL hb
   have el := I.len
   have e1 := I.t1
   have e8 := I.t8
   have e9 := I.t9
   have e10 := I.t10
   have e11 := I.t11
   have row := I.row
   obtain ⟨al, e6⟩ : ∃ al, tm.getD 6 AV.undef = al := ⟨_, rfl⟩
   rw [e6] at row
   have gb := I.box
   rw [← KP.out] at gb
   unfold part at gb
   obtain ⟨R, hR⟩ : ∃ R, W0 i j l ++ optL (uC v) (dig c) ++ optL (uS v m) (sN s) ++ optL (uT v m) (tN t) = R := ⟨_, rfl⟩
   have hRl : R.length ≤ 1000 := by
    rw [← hR]
    have l1 := optL_len (uC v) (dig c)
    have l2 := optL_len (uS v m) (sN s)
    have l3 := optL_len (uT v m) (tN t)
    have l4 := optL_len (uM v) (dig k)
    simp only [W0, List.length_append, List.length_cons, List.length_nil]
    omega
   rw [hR] at row ⊢
   have KR : Hidden (R.length ≤ 1000) := ⟨hRl⟩
   have KI : Hidden (Grown h0 H ∧ h.n ≤ H.low ∧ h.n < H.n ∧ h0.n ≤ h.n) := ⟨I.gr, I.low, I.n, I.g0⟩
   clear hR hRl
   (have fct := Fj @el (Fj @e1 (Fj @e6 (Fj @gb @wk))); (repeat' first | refine A_walk ?_ | exact trivial | refine GuardK_split (fun hb => ?_) (fun hb => ?_) | refine CondK_split (fun hb => ?_) (fun hb => ?_) | refine CodeK_regionD _ ?_ | refine DGuardK_split (fun hb => ?_) (fun hb => ?_)); all_goals try clear fct)
   refine ResK_eq (KJ.out.2.1.itoa k _ I.gr (by have := hh.1; omega) (by have := hh.2; omega)) ?_
   clear I
   (have fct := Fj @el (Fj @e1 (Fj @e6 (Fj @gb (Fj @op_litS (Fj @oo (Fj @r1 @op_append)))))); (repeat' first | refine A_walk ?_ | exact trivial | refine GuardK_split (fun hb => ?_) (fun hb => ?_) | refine CondK_split (fun hb => ?_) (fun hb => ?_) | refine CodeK_regionD _ ?_ | refine DGuardK_split (fun hb => ?_) (fun hb => ?_)); all_goals try clear fct)
   obtain ⟨ig, il, inn, ig0⟩ := KI.out
   refine ResK_ex (app_row (row.push _) (by simp; omega) KR.out (Hp.get_push_self _ _)) fun v2 H2 hL => ?_
   obtain ⟨row2, n2, k2, l2⟩ := hL
   have n2' : H.n + 1 ≤ H2.n := by simpa using n2
   have K2 : Hidden (RowL h.n H2 v2 (R ++ [dig k])) := ⟨row2⟩
   clear row2 row
   (have fct := Fj @el (Fj @e1 (Fj @e8 (Fj @e9 (Fj @e10 @e11)))); (repeat' first | refine A_walk ?_ | exact trivial | refine GuardK_split (fun hb => ?_) (fun hb => ?_) | refine CondK_split (fun hb => ?_) (fun hb => ?_) | refine CodeK_regionD _ ?_ | refine DGuardK_split (fun hb => ?_) (fun hb => ?_)); all_goals try clear fct)
   refine ⟨by simp only [List.length_set, el], by simp only [fsTm, Nat.reduceBEq, Nat.reduceLT, el, e1], by simp only [fsTm, Nat.reduceBEq, Nat.reduceLT, el, e8], by simp only [fsTm, Nat.reduceBEq, Nat.reduceLT, el, e9], by simp only [fsTm, Nat.reduceBEq, Nat.reduceLT, el, e10], by simp only [fsTm, Nat.reduceBEq, Nat.reduceLT, el, e11], by simp only [fsTm, Nat.reduceBEq, Nat.reduceLT, el]; exact K2.out, ?_, ⟨by have := ig.1; omega, fun b hb => ?_⟩, l2 (by simpa using il), by omega, ig0⟩
   · rw [k2 _ (Nat.le_refl _), Hp.get_push_ne _ _ _ (by omega), gb, ← KP.out]; rfl
   · rw [k2 b (by omega), Hp.get_push_ne _ _ _ (by have := ig.1; omega), ig.2 b hb]
 · have eL : W0 i j l ++ optL (uC v) (dig c) ++ optL (uS v m) (sN s) ++ optL (uT v m) (tN t) ++ optL (uM v) (dig k) = W0 i j l ++ optL (uC v) (dig c) ++ optL (uS v m) (sN s) ++ optL (uT v m) (tN t) := by rw [show optL (uM v) (dig k) = [] from if_neg (by rw [hb]; exact Bool.false_ne_true), List.append_nil]
   rw [eL]
   clear eL hb
   have el := I.len
   have e1 := I.t1
   have e8 := I.t8
   have e9 := I.t9
   have e10 := I.t10
   have e11 := I.t11
   obtain ⟨R, hR⟩ : ∃ R, W0 i j l ++ optL (uC v) (dig c) ++ optL (uS v m) (sN s) ++ optL (uT v m) (tN t) = R := ⟨_, rfl⟩
   have I2 := I
   rw [hR] at I2 ⊢
   have KI := Hidden.mk I2
   clear hR I I2
   (have fct := trivial; (repeat' first | refine A_walk ?_ | exact trivial | refine GuardK_split (fun hb => ?_) (fun hb => ?_) | refine CondK_split (fun hb => ?_) (fun hb => ?_) | refine CodeK_regionD _ ?_ | refine DGuardK_split (fun hb => ?_) (fun hb => ?_)); all_goals try clear fct)
   have I := KI.out
   exact ⟨by simp only [List.length_set, I.len], by simp only [fsTm, Nat.reduceBEq, Nat.reduceLT, I.len, I.t1], by simp only [fsTm, Nat.reduceBEq, Nat.reduceLT, I.len, I.t8], by simp only [fsTm, Nat.reduceBEq, Nat.reduceLT, I.len, I.t9], by simp only [fsTm, Nat.reduceBEq, Nat.reduceLT, I.len, I.t10], by simp only [fsTm, Nat.reduceBEq, Nat.reduceLT, I.len, I.t11], by simp only [fsTm, Nat.reduceBEq, Nat.reduceLT, I.len]; exact I.row, I.box, I.gr, I.low, I.n, I.g0⟩
 clear I
 have el := I'.len
 have e8 := I'.t8
 have e9 := I'.t9
 have e10 := I'.t10
 have e11 := I'.t11
 obtain ⟨R, hR⟩ : ∃ R, W0 i j l ++ optL (uC v) (dig c) ++ optL (uS v m) (sN s) ++ optL (uT v m) (tN t) ++ optL (uM v) (dig k) = R := ⟨_, rfl⟩
 have KI : Hidden (PrI h0 pc h.n B2 B3 B4 B5 (W0 i j l ++ optL (uC v) (dig c) ++ optL (uS v m) (sN s) ++ optL (uT v m) (tN t) ++ optL (uM v) (dig k)) tm' H') := ⟨I'⟩
 clear I' hR
 (have fct := Fj @el (Fj @e8 (Fj @e9 (Fj @e10 @e11))); (repeat' first | refine A_walk ?_ | exact trivial | refine GuardK_split (fun hb => ?_) (fun hb => ?_) | refine CondK_split (fun hb => ?_) (fun hb => ?_) | refine CodeK_regionD _ ?_ | refine DGuardK_split (fun hb => ?_) (fun hb => ?_)); all_goals try clear fct)
 have I := KI.out
 clear KI R el e8 e9 e10 e11
 clear tm H
 revert I
 generalize tm' = tm
 generalize H' = H
 intro I
 rw [← KB.out.2.2.2.2]
 refine CondK_mid (PrI h0 pc h.n B2 B3 B4 B5 (W0 i j l ++ optL (uC v) (dig c) ++ optL (uS v m) (sN s) ++ optL (uT v m) (tN t) ++ optL (uM v) (dig k) ++ optL (uN v) (nm))) (fun hb => ?_) (fun hb => ?_) (fun tm' H' I' => ?_)
 · have eL : W0 i j l ++ optL (uC v) (dig c) ++ optL (uS v m) (sN s) ++ optL (uT v m) (tN t) ++ optL (uM v) (dig k) ++ optL (uN v) (nm) = (W0 i j l ++ optL (uC v) (dig c) ++ optL (uS v m) (sN s) ++ optL (uT v m) (tN t) ++ optL (uM v) (dig k)) ++ [nm] := by rw [show optL (uN v) (nm) = [nm] from if_pos hb]
   rw [eL]
   have hh := True.intro
   clear eL hb
   have el := I.len
   have e1 := I.t1
   have e8 := I.t8
   have e9 := I.t9
   have e10 := I.t10
   have e11 := I.t11
   have row := I.row
   obtain ⟨al, e6⟩ : ∃ al, tm.getD 6 AV.undef = al := ⟨_, rfl⟩
   rw [e6] at row
   have gb := I.box
   rw [← KP.out] at gb
   unfold part at gb
   obtain ⟨R, hR⟩ : ∃ R, W0 i j l ++ optL (uC v) (dig c) ++ optL (uS v m) (sN s) ++ optL (uT v m) (tN t) ++ optL (uM v) (dig k) = R := ⟨_, rfl⟩
   have hRl : R.length ≤ 1000 := by
    rw [← hR]
    have l1 := optL_len (uC v) (dig c)
    have l2 := optL_len (uS v m) (sN s)
    have l3 := optL_len (uT v m) (tN t)
    have l4 := optL_len (uM v) (dig k)
    simp only [W0, List.length_append, List.length_cons, List.length_nil]
    omega
   rw [hR] at row ⊢
   have KR : Hidden (R.length ≤ 1000) := ⟨hRl⟩
   have KI : Hidden (Grown h0 H ∧ h.n ≤ H.low ∧ h.n < H.n ∧ h0.n ≤ h.n) := ⟨I.gr, I.low, I.n, I.g0⟩
   clear hR hRl
   clear I
   (have fct := Fj @el (Fj @e1 (Fj @e6 (Fj @gb (Fj @op_litS (Fj @oo (Fj @r1 @op_append)))))); (repeat' first | refine A_walk ?_ | exact trivial | refine GuardK_split (fun hb => ?_) (fun hb => ?_) | refine CondK_split (fun hb => ?_) (fun hb => ?_) | refine CodeK_regionD _ ?_ | refine DGuardK_split (fun hb => ?_) (fun hb => ?_)); all_goals try clear fct)
   obtain ⟨ig, il, inn, ig0⟩ := KI.out
   refine ResK_ex (app_row (row.push _) (by simp; omega) KR.out (Hp.get_push_self _ _)) fun v2 H2 hL => ?_
   obtain ⟨row2, n2, k2, l2⟩ := hL
   have n2' : H.n + 1 ≤ H2.n := by simpa using n2
   have K2 : Hidden (RowL h.n H2 v2 (R ++ [nm])) := ⟨row2⟩
   clear row2 row
   (have fct := Fj @el (Fj @e1 (Fj @e8 (Fj @e9 (Fj @e10 @e11)))); (repeat' first | refine A_walk ?_ | exact trivial | refine GuardK_split (fun hb => ?_) (fun hb => ?_) | refine CondK_split (fun hb => ?_) (fun hb => ?_) | refine CodeK_regionD _ ?_ | refine DGuardK_split (fun hb => ?_) (fun hb => ?_)); all_goals try clear fct)
   refine ⟨by simp only [List.length_set, el], by simp only [fsTm, Nat.reduceBEq, Nat.reduceLT, el, e1], by simp only [fsTm, Nat.reduceBEq, Nat.reduceLT, el, e8], by simp only [fsTm, Nat.reduceBEq, Nat.reduceLT, el, e9], by simp only [fsTm, Nat.reduceBEq, Nat.reduceLT, el, e10], by simp only [fsTm, Nat.reduceBEq, Nat.reduceLT, el, e11], by simp only [fsTm, Nat.reduceBEq, Nat.reduceLT, el]; exact K2.out, ?_, ⟨by have := ig.1; omega, fun b hb => ?_⟩, l2 (by simpa using il), by omega, ig0⟩
   · rw [k2 _ (Nat.le_refl _), Hp.get_push_ne _ _ _ (by omega), gb, ← KP.out]; rfl
   · rw [k2 b (by omega), Hp.get_push_ne _ _ _ (by have := ig.1; omega), ig.2 b hb]
 · have eL : W0 i j l ++ optL (uC v) (dig c) ++ optL (uS v m) (sN s) ++ optL (uT v m) (tN t) ++ optL (uM v) (dig k) ++ optL (uN v) (nm) = W0 i j l ++ optL (uC v) (dig c) ++ optL (uS v m) (sN s) ++ optL (uT v m) (tN t) ++ optL (uM v) (dig k) := by rw [show optL (uN v) (nm) = [] from if_neg (by rw [hb]; exact Bool.false_ne_true), List.append_nil]
   rw [eL]
   clear eL hb
   have el := I.len
   have e1 := I.t1
   have e8 := I.t8
   have e9 := I.t9
   have e10 := I.t10
   have e11 := I.t11
   obtain ⟨R, hR⟩ : ∃ R, W0 i j l ++ optL (uC v) (dig c) ++ optL (uS v m) (sN s) ++ optL (uT v m) (tN t) ++ optL (uM v) (dig k) = R := ⟨_, rfl⟩
   have I2 := I
   rw [hR] at I2 ⊢
   have KI := Hidden.mk I2
   clear hR I I2
   (have fct := trivial; (repeat' first | refine A_walk ?_ | exact trivial | refine GuardK_split (fun hb => ?_) (fun hb => ?_) | refine CondK_split (fun hb => ?_) (fun hb => ?_) | refine CodeK_regionD _ ?_ | refine DGuardK_split (fun hb => ?_) (fun hb => ?_)); all_goals try clear fct)
   have I := KI.out
   exact ⟨by simp only [List.length_set, I.len], by simp only [fsTm, Nat.reduceBEq, Nat.reduceLT, I.len, I.t1], by simp only [fsTm, Nat.reduceBEq, Nat.reduceLT, I.len, I.t8], by simp only [fsTm, Nat.reduceBEq, Nat.reduceLT, I.len, I.t9], by simp only [fsTm, Nat.reduceBEq, Nat.reduceLT, I.len, I.t10], by simp only [fsTm, Nat.reduceBEq, Nat.reduceLT, I.len, I.t11], by simp only [fsTm, Nat.reduceBEq, Nat.reduceLT, I.len]; exact I.row, I.box, I.gr, I.low, I.n, I.g0⟩
 clear I
 have el := I'.len
 have e8 := I'.t8
 have e9 := I'.t9
 have e10 := I'.t10
 have e11 := I'.t11
 obtain ⟨b, cap, h2, h3, h4, h5, h6, h7⟩ := I'.row
 have low := I'.low
 have KI := Hidden.mk (And.intro h4 (And.intro h6 h7))
 clear I' h4 h6 h7
 (have fct := Fj @el @h5; (repeat' first | refine A_walk ?_ | exact trivial | refine GuardK_split (fun hb => ?_) (fun hb => ?_) | refine CondK_split (fun hb => ?_) (fun hb => ?_) | refine CodeK_regionD _ ?_ | refine DGuardK_split (fun hb => ?_) (fun hb => ?_)); all_goals try clear fct)
 refine ResK_eq (KJ.out.1 _ b cap false _ KI.out.2.1 KI.out.2.2 KI.out.1 ?_ KJ.out.2.2) ?_
 · have l1 := optL_len (uC v) (dig c)
   have l2 := optL_len (uS v m) (sN s)
   have l3 := optL_len (uT v m) (tN t)
   have l4 := optL_len (uM v) (dig k)
   have l5 := optL_len (uN v) nm
   simp only [W0, List.length_append, List.length_cons, List.length_nil]
   omega
 clear KJ KI KB KEEP
 generalize Lib.join _ _ = X
 (have fct := Fj @el @low; (repeat' first | refine A_walk ?_ | exact trivial | refine GuardK_split (fun hb => ?_) (fun hb => ?_) | refine CondK_split (fun hb => ?_) (fun hb => ?_) | refine CodeK_regionD _ ?_ | refine DGuardK_split (fun hb => ?_) (fun hb => ?_)); all_goals try clear fct)
end Go.Proofs.Ef
