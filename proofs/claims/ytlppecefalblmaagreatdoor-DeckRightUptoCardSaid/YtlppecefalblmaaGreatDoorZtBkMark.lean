/- Marks put into the books. -/
import Derived.Test.YtlppecefalblmaaGreatDoorFz05
import Derived.Test.YtlppecefalblmaaGreatDoorZtBkName
import Derived.Test.YtlppecefalblmaaGreatDoorZtBkRCard
namespace Go.Proofs.Cards
set_option maxRecDepth 100000
set_option maxHeartbeats 32000000
open Go Go.Fs
set_option linter.unusedSimpArgs false
set_option linter.unusedVariables false
variable {orc : Orc}
def cf64 : CF := ⟨69, [(.tmp 4)], (.seq (.region [Zo 3 (.box (.t 1)), Zo 4 (.mv (.c (.int .i64 0)))]) (.seq (.seq (.region [Zm 8 0, Zo 9 (.call (.f 117) [(.t 8)]), Zm 5 9]) (.seq (.region [Zm 10 5, Zb 11 .neq (.t 10) (.c (.int .i64 0))]) (.cond (.t 11) (.seq (.region [Zm 12 5, Zm 4 12]) .ret) .skip))) (.seq (.block 0 (.seq (.region [Zf 14 0 3, Zl 15 14, Zb 16 .lss (.t 15) (.c (.int .u8 1)), Zm 17 16, Zg 18 (.faddr 0 (.t 3)) 17 false, Zg 19 (.load none (.t 18)) 17 false, Zg 20 (.bin .gtr .other (.t 19) (.c (.int .u8 4))) 17 false, Zo 21 (.pick (.t 17) (.c (.bool true)) (.t 20)), Zm 22 21, Zg 23 (.faddr 2 (.t 3)) 22 false, Zg 24 (.load none (.t 23)) 22 false, Zg 25 (.call (.f 124) [(.t 24)]) 22 false, Zg 26 (.un .not (.t 25)) 22 false, Zo 27 (.pick (.t 22) (.c (.bool true)) (.t 26)), Zm 28 27, Zg 29 (.faddr 3 (.t 3)) 28 false, Zg 30 (.load none (.t 29)) 28 false, Zg 31 (.call (.f 124) [(.t 30)]) 28 false, Zg 32 (.un .not (.t 31)) 28 false, Zo 33 (.pick (.t 28) (.c (.bool true)) (.t 32)), Zm 13 33]) (.cond (.t 13) (.seq (.region [Zo 4 (.mv (.c (.int .i64 2)))]) .ret) (.seq (.region [Zf 35 1 3, Zl 36 35, Zo 37 (.call (.f 125) [(.t 36)]), Zo 38 (.un .not (.t 37)), Zm 34 38]) (.cond (.t 34) (.seq (.region [Zo 4 (.mv (.c (.int .i64 4)))]) .ret) (.seq (.regionD [⟨Zm 40 0, 0, 0, false⟩, ⟨Zf 41 0 3, 0, 0, false⟩, ⟨Zl 42 41, 0, 0, false⟩, ⟨Zo 43 (.nilchk (.t 40)), 0, 0, false⟩, ⟨Zf 44 588 43, 0, 0, false⟩, ⟨Zo 45 (.iaddrA 5 4 (.t 44) (.t 42)), 0, 0, false⟩, ⟨Zf 46 0 45, 0, 0, false⟩, ⟨Zl 47 46, 0, 0, false⟩, ⟨Zb 48 .neq (.t 47) (.c (.int .u8 0)), 0, 0, false⟩, ⟨Zm 39 48, 0, 0, false⟩]) (.cond (.t 39) (.seq (.region [Zo 4 (.mv (.c (.int .i64 5)))]) .ret) .skip))))))) (.seq (.seq (.region [Zm 49 0, Zo 50 (.nilchk (.t 49)), Zf 51 588 50, Zo 52 (.load (some 20) (.t 51)), Zo 53 (.mv (.c (.int .i64 0)))]) (.block 1 (.loop (.seq (.region [Zb 54 .lss (.t 53) (.c (.int .i64 5))]) (.seq (.cond (.t 54) .skip (.exit 1)) (.seq (.block 2 (.seq (.region [Zo 55 (.idxA 5 4 (some 4) (.t 52) (.t 53)), Zo 7 (.alloc [(.int .u8 0), (.str []), (.int .i64 0), (.int .i64 0)]), Zn (.store 4 (.t 7) (.t 55))]) (.seq (.region [Zf 56 1 7, Zl 57 56, Zf 58 1 3, Zl 59 58, Zb 60 .eql (.t 57) (.t 59)]) (.cond (.t 60) (.seq (.region [Zo 4 (.mv (.c (.int .i64 5)))]) .ret) .skip)))) (.region [Zb 61 .add (.t 53) (.c (.int .i64 1)), Zm 53 61]))))))) (.seq (.regionD [⟨Zm 62 0, 0, 0, false⟩, ⟨Zf 63 0 3, 0, 0, false⟩, ⟨Zl 64 63, 0, 0, false⟩, ⟨Zo 65 (.load (some 4) (.t 3)), 0, 0, false⟩, ⟨Zo 66 (.nilchk (.t 62)), 0, 0, false⟩, ⟨Zf 67 588 66, 0, 0, false⟩, ⟨Zo 68 (.iaddrA 5 4 (.t 67) (.t 64)), 0, 0, false⟩, ⟨Zn (.store 4 (.t 68) (.t 65)), 0, 1, false⟩]) (.seq (.region [Zo 4 (.mv (.c (.int .i64 0)))]) .ret))))))⟩
def cf65 : CF := ⟨82, [(.tmp 4)], (.seq (.region [Zo 3 (.box (.t 1)), Zo 4 (.mv (.c (.int .i64 0)))]) (.seq (.seq (.region [Zm 6 0, Zo 7 (.call (.f 120) [(.t 6)])]) (.cond (.t 7) (.seq (.region [Zo 4 (.mv (.c (.int .i64 1)))]) .ret) .skip)) (.seq (.seq (.region [Zm 8 0, Zo 9 (.nilchk (.t 8)), Zf 10 1 9, Zl 11 10]) (.cond (.t 11) (.seq (.region [Zo 4 (.mv (.c (.int .i64 7)))]) .ret) .skip)) (.seq (.seq (.region [Zf 12 0 3, Zl 13 12, Zb 14 .lss (.t 13) (.c (.int .u8 1)), Zm 15 14, Zg 16 (.faddr 0 (.t 3)) 15 false, Zg 17 (.load none (.t 16)) 15 false, Zg 18 (.bin .gtr .other (.t 17) (.c (.int .u8 4))) 15 false, Zo 19 (.pick (.t 15) (.c (.bool true)) (.t 18)), Zm 20 19, Zg 21 (.faddr 2 (.t 3)) 20 false, Zg 22 (.load none (.t 21)) 20 false, Zg 23 (.bin .lss .other (.t 22) (.c (.int .i64 (-9)))) 20 false, Zo 24 (.pick (.t 20) (.c (.bool true)) (.t 23)), Zm 25 24, Zg 26 (.faddr 2 (.t 3)) 25 false, Zg 27 (.load none (.t 26)) 25 false, Zg 28 (.bin .gtr .other (.t 27) (.c (.int .i64 9))) 25 false, Zo 29 (.pick (.t 25) (.c (.bool true)) (.t 28)), Zm 30 29, Zg 31 (.faddr 3 (.t 3)) 30 false, Zg 32 (.load none (.t 31)) 30 false, Zg 33 (.bin .lss .other (.t 32) (.c (.int .i64 (-9)))) 30 false, Zo 34 (.pick (.t 30) (.c (.bool true)) (.t 33)), Zm 35 34, Zg 36 (.faddr 3 (.t 3)) 35 false, Zg 37 (.load none (.t 36)) 35 false, Zg 38 (.bin .gtr .other (.t 37) (.c (.int .i64 9))) 35 false, Zo 39 (.pick (.t 35) (.c (.bool true)) (.t 38))]) (.cond (.t 39) (.seq (.region [Zo 4 (.mv (.c (.int .i64 2)))]) .ret) .skip)) (.seq (.seq (.region [Zf 40 1 3, Zl 41 40, Zo 42 (.call (.f 126) [(.t 41)]), Zo 43 (.un .not (.t 42))]) (.cond (.t 43) (.seq (.region [Zo 4 (.mv (.c (.int .i64 4)))]) .ret) .skip)) (.seq (.seq (.region [Zo 5 (.mv (.c (.int .i64 1)))]) (.block 0 (.loop (.seq (.seq (.region [Zm 44 5, Zb 45 .leq (.t 44) (.c (.int .i64 4))]) (.cond (.t 45) .skip (.exit 0))) (.seq (.block 1 (.seq (.regionD [⟨Zm 48 5, 0, 0, false⟩, ⟨Zo 49 (.toInt .u8 (.t 48)), 0, 0, false⟩, ⟨Zf 50 0 3, 0, 0, false⟩, ⟨Zl 51 50, 0, 0, false⟩, ⟨Zb 52 .eql (.t 49) (.t 51), 0, 0, false⟩, ⟨Zm 53 52, 0, 0, false⟩, ⟨Zg 54 (.mv (.t 0)) 53 true, 0, 0, false⟩, ⟨Zg 55 (.mv (.t 5)) 53 true, 0, 0, false⟩, ⟨Zg 56 (.nilchk (.t 54)) 53 true, 0, 0, false⟩, ⟨Zg 57 (.faddr 12 (.t 56)) 53 true, 0, 0, false⟩, ⟨Zg 58 (.iaddrA 5 4 (.t 57) (.t 55)) 53 true, 0, 0, false⟩, ⟨Zg 59 (.faddr 0 (.t 58)) 53 true, 0, 0, false⟩, ⟨Zg 60 (.load none (.t 59)) 53 true, 0, 0, false⟩, ⟨Zg 61 (.bin .neq .other (.t 60) (.c (.int .u8 0))) 53 true, 0, 0, false⟩, ⟨Zo 62 (.pick (.t 53) (.t 61) (.c (.bool false))), 0, 0, false⟩, ⟨Zm 63 62, 0, 0, false⟩, ⟨Zg 64 (.mv (.t 0)) 63 false, 0, 0, false⟩, ⟨Zg 65 (.mv (.t 5)) 63 false, 0, 0, false⟩, ⟨Zg 66 (.nilchk (.t 64)) 63 false, 0, 0, false⟩, ⟨Zg 67 (.faddr 12 (.t 66)) 63 false, 0, 0, false⟩, ⟨Zg 68 (.iaddrA 5 4 (.t 67) (.t 65)) 63 false, 0, 0, false⟩, ⟨Zg 69 (.faddr 1 (.t 68)) 63 false, 0, 0, false⟩, ⟨Zg 70 (.load none (.t 69)) 63 false, 0, 0, false⟩, ⟨Zg 71 (.faddr 1 (.t 3)) 63 false, 0, 0, false⟩, ⟨Zg 72 (.load none (.t 71)) 63 false, 0, 0, false⟩, ⟨Zg 73 (.bin .eql .other (.t 70) (.t 72)) 63 false, 0, 0, false⟩, ⟨Zo 74 (.pick (.t 63) (.c (.bool true)) (.t 73)), 0, 0, false⟩]) (.cond (.t 74) (.seq (.region [Zo 4 (.mv (.c (.int .i64 5)))]) .ret) .skip))) (.region [Zm 46 5, Zb 47 .add (.t 46) (.c (.int .i64 1)), Zm 5 47])))))) (.seq (.regionD [⟨Zm 75 0, 0, 0, false⟩, ⟨Zf 76 0 3, 0, 0, false⟩, ⟨Zl 77 76, 0, 0, false⟩, ⟨Zo 78 (.load (some 4) (.t 3)), 0, 0, false⟩, ⟨Zo 79 (.nilchk (.t 75)), 0, 0, false⟩, ⟨Zf 80 12 79, 0, 0, false⟩, ⟨Zo 81 (.iaddrA 5 4 (.t 80) (.t 77)), 0, 0, false⟩, ⟨Zn (.store 4 (.t 81) (.t 78)), 0, 1, false⟩]) (.seq (.region [Zo 4 (.mv (.c (.int .i64 0)))]) .ret))))))))⟩
theorem tbl64 : tbl Tryz.prog 64 = some cf64 := by kernel_rfl
theorem tbl65 : tbl Tryz.prog 65 = some cf65 := by kernel_rfl
def idxAV (n esz : Nat) (agg : Option Nat) (v i : AV) (h : AH) : Option (AV × AH) :=
 match v, i with
 | .agg cs, .int _ j => if 0 ≤ j ∧ j < n then (partOf agg cs (j.toNat * esz)).map fun v => (v, h) else none
 | _, _ => none
theorem op_idxA {call : Rec} {tm : List AV} {h : AH} (n esz : Nat) (agg : Option Nat) (x i : CA) : runOp call (.idxA n esz agg x i) tm h = idxAV n esz agg (x.ev tm) (i.ev tm) h := by
 simp only [runOp, CO.quiet, if_true, quietRun, idxAV]
 generalize x.ev tm = v
 generalize i.ev tm = u
 cases v <;> first | rfl | skip
 cases u <;> first | rfl | skip
 simp only
 split <;> rfl
theorem idxA_row {ms : List Mrk} {i : Nat} {x : Mrk} {k : IntKind} {h : AH} (hx : ms[i]? = some x) (hi : i < 5) : idxAV 5 4 (some 4) (.agg (ms.flatMap Mrk.cells)) (.int k (i : Int)) h = some (.agg x.cells, h) := by
 obtain ⟨c2, c1⟩ := row_at mrk_len hx
 unfold idxAV
 simp only
 rw [if_pos (by omega)]
 simp only [partOf, Int.toNat_natCast, Fs.cut, if_pos c1, c2, Option.map_some]
theorem bk_split (s : Bool) (n : Nat) (L : List Cv) (ms : List Mrk) : bkC s n L ms = (hdB s n ++ L.flatMap Cv.cells ++ List.replicate 9 (.str [])) ++ ms.flatMap Mrk.cells ++ [] := by
 unfold bkC tlB; simp only [List.append_assoc, List.append_nil]
theorem bk_pre (s : Bool) (n : Nat) {L : List Cv} (hL : L.length = 64) : (hdB s n ++ L.flatMap Cv.cells ++ List.replicate 9 (AV.str [])).length = 588 := by
 rw [List.length_append, List.length_append, rows_len cv_len, hL, List.length_replicate]; rfl
theorem bk_mark (s : Bool) (n : Nat) {L : List Cv} (hL : L.length = 64) {ms : List Mrk} {i j : Nat} {x : Mrk} (h : ms[i]? = some x) (hj : j < 4) : (bkC s n L ms)[588 + i * 4 + j]? = x.cells[j]? := by
 rw [bk_split, ← bk_pre s n hL]; exact rows_cell mrk_len h hj
theorem bk_marks (s : Bool) (n : Nat) {L : List Cv} (hL : L.length = 64) {ms : List Mrk} (hm : ms.length = 5) : ((bkC s n L ms).drop 588).take 20 = ms.flatMap Mrk.cells := by
 have h1 : (ms.flatMap Mrk.cells).length = 20 := by rw [rows_len mrk_len, hm]
 rw [bk_split, List.append_nil, ← bk_pre s n hL, List.drop_left, List.take_of_length_le (by omega)]
theorem bk_setm (s : Bool) (n : Nat) {L : List Cv} (hL : L.length = 64) {ms : List Mrk} {i : Nat} (x : Mrk) (h : i < ms.length) : Fs.over (bkC s n L ms) (588 + i * 4) x.cells = bkC s n L (ms.set i x) := by
 rw [bk_split, bk_split, ← bk_pre s n hL]; exact rows_over mrk_len x h
theorem rb_split (s : Bool) (v : AV) (ms : List Mrk) : rbC s v ms = ([.bool true, .bool s, v] ++ List.replicate 9 (.str [])) ++ ms.flatMap Mrk.cells ++ [] := by
 unfold rbC tlB; simp only [List.append_assoc, List.append_nil]
theorem rb_mark (s : Bool) (v : AV) {ms : List Mrk} {i j : Nat} {x : Mrk} (h : ms[i]? = some x) (hj : j < 4) : (rbC s v ms)[12 + i * 4 + j]? = x.cells[j]? := by
 rw [rb_split]; exact rows_cell (pre := [.bool true, .bool s, v] ++ List.replicate 9 (.str [])) mrk_len h hj
theorem rb_setm (s : Bool) (v : AV) {ms : List Mrk} {i : Nat} (x : Mrk) (h : i < ms.length) : Fs.over (rbC s v ms) (12 + i * 4) x.cells = rbC s v (ms.set i x) := by
 rw [rb_split, rb_split]; exact rows_over (pre := [.bool true, .bool s, v] ++ List.replicate 9 (.str [])) mrk_len x h
def badM (m : Mrk) : Bool := decide (m.m < 1) || decide (4 < m.m) || !winB m.p || !winB m.h
def dupM (ms : List Mrk) (m : Mrk) : Bool := (match ms[m.m.toNat]? with | some x => x.m != 0 | none => false) || ms.any (fun x => decide (x.s = m.s))
def markE (ms : List Mrk) (m : Mrk) : Int := if badM m = true then 2 else if Ef.isName m.s = false then 4 else if dupM ms m = true then 5 else 0
theorem any_take {ms : List Mrk} {s : List UInt8} {i : Nat} {x : Mrk} (hx : ms[i]? = some x) (h : (ms.take i).any (fun x => decide (x.s = s)) = false) (hn : decide (x.s = s) = false) : (ms.take (i + 1)).any (fun x => decide (x.s = s)) = false := by
 rw [List.take_add_one, hx, List.any_append, h]
 simpa using hn
theorem any_hit {ms : List Mrk} {s : List UInt8} {i : Nat} {x : Mrk} (hx : ms[i]? = some x) (hn : x.s = s) : ms.any (fun x => decide (x.s = s)) = true := by
 rw [List.any_eq_true]
 exact ⟨x, List.mem_of_getElem? hx, by simpa using hn⟩
structure MkI (h : AH) (pa : Nat) (m : Mrk) (ms : List Mrk) (n : Nat) (tm : List AV) (H : AH) : Prop where
 len : tm.length = 69
 t0 : tm.getD 0 AV.undef = .ptr (some (pa, 0))
 t3 : tm.getD 3 AV.undef = .ptr (some (h.n, 0))
 t52 : tm.getD 52 AV.undef = .agg (ms.flatMap Mrk.cells)
 bx : H.get h.n = some (.cells m.cells false)
 hn : h.n + 1 ≤ H.n
 old : ∀ b, b < h.n → H.get b = h.get b
 low : h.n ≤ H.low
 st : ∃ i : Nat, n = 5 - i ∧ i ≤ 5 ∧ tm.getD 53 AV.undef = .int .i64 (i : Int) ∧ (ms.take i).any (fun x => decide (x.s = m.s)) = false
theorem bmark_spec (ho : orc 64 = none) {pa nn : Nat} {L : List Cv} {ms : List Mrk} (m : Mrk) {h : AH} (hb : h.get pa = some (.cells (bkC false nn L ms) false)) (hpa : pa < h.n) (hL : L.length = 64) (hm : ms.length = 5) (hr : 0 ≤ m.m ∧ m.m ≤ 255)
    (hS : ∀ (H : AH) (cs : List AV), H.get pa = some (.cells cs false) → cs[0]? = some (.bool true) → cs[1]? = some (.bool false) → acall orc T 117 [.ptr (some (pa, 0))] H = some (.int .i64 0, H))
    (hW : ∀ (n : Int) (H : AH), acall orc T 124 [.int .i64 n] H = some (.bool (winB n), H))
    (hN : ∀ (s : List UInt8) (H : AH), acall orc T 125 [.str s] H = some (.bool (Ef.isName s), H)) :
    ∃ v1 h1, acall orc T 64 [.ptr (some (pa, 0)), .agg m.cells] h = some (v1, h1) ∧ v1 = .int .i64 (markE ms m) ∧ (markE ms m ≠ 0 → h1 = h) ∧
     (markE ms m = 0 → h1.get pa = some (.cells (bkC false nn L (ms.set m.m.toNat m)) false)) ∧ h.n ≤ h1.n ∧ (∀ b, b < h.n → b ≠ pa → h1.get b = h.get b) ∧ (∀ N, N ≤ pa → N ≤ h.low → N ≤ h1.low) := by
 refine acall_facts (R := fun v1 h1 => v1 = .int .i64 (markE ms m) ∧ (markE ms m ≠ 0 → h1 = h) ∧
     (markE ms m = 0 → h1.get pa = some (.cells (bkC false nn L (ms.set m.m.toNat m)) false)) ∧ h.n ≤ h1.n ∧ (∀ b, b < h.n → b ≠ pa → h1.get b = h.get b) ∧ (∀ N, N ≤ pa → N ≤ h.low → N ≤ h1.low)) ho tbl64 ?_
 simp only [Ef.settle_fst1]
 have bx : ∀ (hh : AH), boxV (.agg m.cells) hh = some (.ptr (some (hh.n, 0)), hh.push (.cells m.cells false)) := fun hh => boxV_agg _ rfl
 have g1 : ∀ b, b < h.n → ((h.withLow h.n).push (.cells m.cells false)).get b = h.get b := fun b hb => by rw [Hp.get_push_ne _ _ _ (by simp; omega)]; rfl
 have hb1 := (g1 pa hpa).trans hb
 have f1 := hS _ _ hb1 (bk_0 _ _ _ _) (bk_1 _ _ _ _)
 have m0 : m.cells[0]? = some (.int .u8 m.m) := rfl
 have m1 : m.cells[1]? = some (.str m.s) := rfl
 have m2 : m.cells[2]? = some (.int .i64 m.p) := rfl
 have m3 : m.cells[3]? = some (.int .i64 m.h) := rfl
 have y1 : (pa = h.n) = False := by simp; omega
 have stay : ∀ (H : AH) (e : Int), h.n ≤ H.low → Fs.settle h H (.int .i64 e) = (.int .i64 e, h) := fun H e hh => settle_keep hh rfl
 refine GD ?_
 have done : ∀ e : Int, markE ms m = e → e ≠ 0 → ∀ H : AH, h.n ≤ H.low → (AV.int .i64 e = .int .i64 (markE ms m) ∧ (markE ms m ≠ 0 → (Fs.settle h H (.int .i64 e)).2 = h) ∧
     (markE ms m = 0 → (Fs.settle h H (.int .i64 e)).2.get pa = some (.cells (bkC false nn L (ms.set m.m.toNat m)) false)) ∧ h.n ≤ (Fs.settle h H (.int .i64 e)).2.n ∧ (∀ b, b < h.n → b ≠ pa → (Fs.settle h H (.int .i64 e)).2.get b = h.get b) ∧ (∀ N, N ≤ pa → N ≤ h.low → N ≤ (Fs.settle h H (.int .i64 e)).2.low)) := fun e e1 e2 H hh => by
  rw [stay H e hh]
  exact ⟨by rw [e1], fun _ => rfl, fun q => absurd (e1.symm.trans q) e2, Nat.le_refl _, fun _ _ _ => rfl, fun _ _ hN => hN⟩
 by_cases hbad : badM m = true
 case pos =>
  have e2 : markE ms m = 2 := by unfold markE; rw [if_pos hbad]
  have fin := done 2 e2 (by decide)
  have w1 := hW m.p
  have w2 := hW m.h
  clear done
  cases h1 : decide (m.m < 1) with
  | true =>
    (have fct := Fj @bx (Fj @f1 (Fj @m0 (Fj @m2 (Fj @m3 (Fj @h1 (Fj @w1 @w2)))))); refine GO ?_; clear fct)
    exact ⟨.inr rfl, .int .i64 2, rfl, fin _ (by simp)⟩
  | false =>
    cases h2 : decide ((4 : Int) < m.m) with
    | true =>
      (have fct := Fj @bx (Fj @f1 (Fj @m0 (Fj @m2 (Fj @m3 (Fj @h1 (Fj @h2 (Fj @w1 @w2))))))); refine GO ?_; clear fct)
      exact ⟨.inr rfl, .int .i64 2, rfl, fin _ (by simp)⟩
    | false =>
      cases h3 : winB m.p with
      | false =>
        rw [h3] at w1
        (have fct := Fj @bx (Fj @f1 (Fj @m0 (Fj @m2 (Fj @m3 (Fj @h1 (Fj @h2 (Fj @w1 @w2))))))); refine GO ?_; clear fct)
        exact ⟨.inr rfl, .int .i64 2, rfl, fin _ (by simp)⟩
      | true =>
        cases h4 : winB m.h with
        | false =>
          rw [h3] at w1
          rw [h4] at w2
          (have fct := Fj @bx (Fj @f1 (Fj @m0 (Fj @m2 (Fj @m3 (Fj @h1 (Fj @h2 (Fj @w1 @w2))))))); refine GO ?_; clear fct)
          exact ⟨.inr rfl, .int .i64 2, rfl, fin _ (by simp)⟩
        | true => simp [badM, h1, h2, h3, h4] at hbad
 have hbad' : badM m = false := by simpa using hbad
 unfold badM at hbad'
 simp only [Bool.or_eq_false_iff, Bool.not_eq_false'] at hbad'
 obtain ⟨⟨⟨h1, h2⟩, h3⟩, h4⟩ := hbad'
 have w1 := hW m.p
 have w2 := hW m.h
 rw [h3] at w1
 rw [h4] at w2
 have nN := hN m.s
 by_cases hnm : Ef.isName m.s = false
 case pos =>
  have e2 : markE ms m = 4 := by unfold markE; rw [if_neg hbad, if_pos hnm]
  rw [hnm] at nN
  (have fct := Fj @bx (Fj @f1 (Fj @m0 (Fj @m1 (Fj @m2 (Fj @m3 (Fj @h1 (Fj @h2 (Fj @w1 (Fj @w2 @nN))))))))); refine GO ?_; clear fct)
  exact ⟨.inr rfl, .int .i64 4, rfl, done 4 e2 (by decide) _ (by simp)⟩
 rw [show Ef.isName m.s = true by simpa using hnm] at nN
 have q1 := of_decide_eq_false h1
 have q2 := of_decide_eq_false h2
 obtain ⟨k, hk⟩ : ∃ k : Nat, m.m = (k : Int) := ⟨m.m.toNat, by omega⟩
 have hk5 : k < 5 := by omega
 have hkn : m.m.toNat = k := by omega
 obtain ⟨x, hx⟩ : ∃ x, ms[k]? = some x := ⟨_, List.getElem?_eq_getElem (by omega)⟩
 have a1 := fun (hh : AH) => iaddrA_nat (h := hh) (n := 5) (esz := 4) (b := pa) (o := 588) (k := .u8) hk5
 rw [hk] at m0 h1 h2
 have c1 : (bkC false nn L ms)[588 + k * 4]? = some (.int .u8 x.m) := bk_mark false nn hL (j := 0) hx (by decide)
 cases hz : (x.m != 0) with
 | true =>
   have e2 : markE ms m = 5 := by
    unfold markE dupM
    rw [if_neg hbad, if_neg hnm, hkn, hx]
    simp only [hz, Bool.true_or, if_true]
   (have fct := Fj @bx (Fj @f1 (Fj @m0 (Fj @m1 (Fj @m2 (Fj @m3 (Fj @h1 (Fj @h2 (Fj @w1 (Fj @w2 (Fj @nN (Fj @hb (Fj @y1 (Fj @a1 (Fj @c1 (Fj @hz (Fj @op_nilchk (Fj @nilcV_ptr @Ef.op_iaddrA))))))))))))))))); refine GOD ?_; clear fct)
   exact ⟨.inr rfl, .int .i64 5, rfl, done 5 e2 (by decide) _ (by simp)⟩
 | false =>
 have c3 := bk_marks false nn hL hm
 have c4 : (588 + 20 ≤ (bkC false nn L ms).length) = True := by rw [bk_len, hL, hm]; simp
 have c5 : (608 ≤ (bkC false nn L ms).length) = True := by rw [bk_len, hL, hm]; simp
 (have fct := Fj @bx (Fj @f1 (Fj @m0 (Fj @m1 (Fj @m2 (Fj @m3 (Fj @h1 (Fj @h2 (Fj @w1 (Fj @w2 (Fj @nN (Fj @hb (Fj @y1 (Fj @a1 (Fj @c1 (Fj @c3 (Fj @c4 (Fj @c5 (Fj @hz (Fj @op_nilchk (Fj @nilcV_ptr @Ef.op_iaddrA)))))))))))))))))))); refine GOD ?_; clear fct)
 refine CodeK_loop (MkI h pa m ms) 5 ?_ ?_
 · exact ⟨rfl, rfl, rfl, rfl, Hp.get_push_self _ _, by simp, g1, by simp, 0, rfl, by omega, rfl, rfl⟩
 clear f1 hb1 nN w1 w2 bx c1 c3 c4 c5
 intro n tm H I
 obtain ⟨i, hni, hi, e53, hany⟩ := I.st
 have el := I.len
 have e0 := I.t0
 have t3 := I.t3
 have t52 := I.t52
 have b0 := I.bx
 have Hn := I.hn
 have old := I.old
 have lo := I.low
 clear I
 by_cases hlt : i < 5
 case neg =>
  obtain rfl : i = 5 := by omega
  have l1 : decide (((5 : Nat) : Int) < 5) = false := rfl
  rw [List.take_of_length_le (by omega)] at hany
  have e2 : markE ms m = 0 := by
   unfold markE dupM
   rw [if_neg hbad, if_neg hnm, hkn, hx]
   simp only [hz, hany, Bool.or_self, Bool.false_eq_true, if_false]
  have pbH := (old pa hpa).trans hb
  have l9 : (588 + (k * 4 + 4) ≤ (bkC false nn L ms).length) = True := by rw [bk_len, hL, hm]; simp; omega
  have o1 := bk_setm false nn hL m (show k < ms.length by omega)
  have z1 := mrk_one m
  have z2 := mrk_len m
  have z3 : m.cells.take 4 = m.cells := rfl
  (have fct := Fj @el (Fj @e0 (Fj @t3 (Fj @e53 (Fj @l1 (Fj @b0 (Fj @pbH (Fj @m0 (Fj @a1 (Fj @l9 (Fj @o1 (Fj @z1 (Fj @z2 (Fj @z3 (Fj @op_nilchk (Fj @nilcV_ptr @Ef.op_iaddrA))))))))))))))); refine GOD ?_; clear fct)
  refine ⟨.inr rfl, .int .i64 0, by simp [resAll, resOne, el], ?_⟩
  have hst2 : ∀ cs : List AV, Fs.settle h (H.set pa (.cells cs false)) (.int .i64 0) = (.int .i64 0, (H.set pa (.cells cs false)).withLow (min h.low (min H.low pa))) := fun cs => by
   unfold Fs.settle
   rw [if_neg (fun hh => by have := hh.1; simp at this; omega)]
   rfl
  rw [hst2, hkn]
  refine ⟨by rw [e2], fun hh => absurd e2 hh, fun _ => Hp.get_set_self _ _ _, by simp; omega, fun b hb hne => ?_, fun N hN1 hN2 => by simp; omega⟩
  rw [Hp.get_withLow, Hp.get_set_ne _ _ _ _ hne, old b hb]
 case pos =>
 have l1 : decide ((i : Int) < 5) = true := by rw [decide_eq_true_eq]; omega
 obtain ⟨y, hy⟩ : ∃ y, ms[i]? = some y := ⟨_, List.getElem?_eq_getElem (by omega)⟩
 have a2 := fun (hh : AH) => idxA_row (k := .i64) (h := hh) hy hlt
 have w1 : IntKind.wrap .i64 ((i : Int) + 1) = ((i + 1 : Nat) : Int) := by rw [wrap_i64 (by omega) (by omega)]; omega
 have y0 : y.cells[1]? = some (.str y.s) := rfl
 have z1 := mrk_one y
 have z2 := mrk_len y
 have y2 : (h.n = H.n) = False := by simp; omega
 have o2 : Fs.over [AV.int .u8 0, AV.str [], AV.int .i64 0, AV.int .i64 0] 0 y.cells = y.cells := rfl
 by_cases hq : y.s = m.s
 · have d1 : decide (y.s = m.s) = true := decide_eq_true hq
   have e2 : markE ms m = 5 := by
    unfold markE dupM
    rw [if_neg hbad, if_neg hnm, any_hit hy hq, Bool.or_true, if_pos rfl]
   (have fct := Fj @el (Fj @e0 (Fj @t3 (Fj @t52 (Fj @e53 (Fj @l1 (Fj @b0 (Fj @m1 (Fj @a2 (Fj @y0 (Fj @z1 (Fj @z2 (Fj @y2 (Fj @o2 (Fj @d1 (Fj @op_idxA fsAstr))))))))))))))); refine GO ?_; clear fct)
   exact ⟨.inr rfl, .int .i64 5, by simp [resAll, resOne, el], done 5 e2 (by decide) _ (by simp; omega)⟩
 · have d1 : decide (y.s = m.s) = false := decide_eq_false hq
   (have fct := Fj @el (Fj @e0 (Fj @t3 (Fj @t52 (Fj @e53 (Fj @l1 (Fj @b0 (Fj @m1 (Fj @a2 (Fj @y0 (Fj @z1 (Fj @z2 (Fj @y2 (Fj @o2 (Fj @d1 (Fj @w1 (Fj @op_idxA fsAstr)))))))))))))))); refine GO ?_; clear fct)
   exact ⟨5 - (i + 1), by omega, by simp only [List.length_set, el], by simp only [fsTm, Nat.reduceBEq, Nat.reduceLT, el, e0], by simp only [fsTm, Nat.reduceBEq, Nat.reduceLT, el, t3], by simp only [fsTm, Nat.reduceBEq, Nat.reduceLT, el, t52], by rw [Hp.get_set_ne _ _ _ _ (by omega), Hp.get_push_ne _ _ _ (by omega)]; exact b0, by simp; omega, fun b hb => by rw [Hp.get_set_ne _ _ _ _ (by omega), Hp.get_push_ne _ _ _ (by omega)]; exact old b hb, by simp; omega, i + 1, rfl, by omega, by simp only [fsTm, Nat.reduceBEq, Nat.reduceLT, el], any_take hy hany d1⟩
structure RmkI (h : AH) (pb : Nat) (m : Mrk) (ms : List Mrk) (k : Nat) (x : Mrk) (n : Nat) (tm : List AV) (H : AH) : Prop where
 len : tm.length = 82
 t0 : tm.getD 0 AV.undef = .ptr (some (pb, 0))
 t3 : tm.getD 3 AV.undef = .ptr (some (h.n, 0))
 hp : H = (h.withLow h.n).push (.cells m.cells false)
 st : ∃ i : Nat, n = 5 - i ∧ 1 ≤ i ∧ i ≤ 5 ∧ tm.getD 5 AV.undef = .int .i64 (i : Int) ∧ (ms.take i).any (fun x => decide (x.s = m.s)) = false ∧ (k < i → (x.m != 0) = false)
theorem rmark_spec (ho : orc 65 = none) {pb : Nat} {lv : AV} {ms : List Mrk} (m : Mrk) {h : AH} (hb : h.get pb = some (.cells (rbC false lv ms) false)) (hpb : pb < h.n) (hm : ms.length = 5) (hz0 : ∃ z, ms[0]? = some z ∧ z.s = []) (hr : 0 ≤ m.m ∧ m.m ≤ 255)
    (hS : ∀ (H : AH) (cs : List AV), H.get pb = some (.cells cs false) → cs[0]? = some (.bool true) → acall orc T 120 [.ptr (some (pb, 0))] H = some (.bool false, H))
    (hN : ∀ (s : List UInt8) (H : AH), acall orc T 126 [.str s] H = some (.bool (Ef.isName s), H)) :
    ∃ v1 h1, acall orc T 65 [.ptr (some (pb, 0)), .agg m.cells] h = some (v1, h1) ∧ v1 = .int .i64 (markE ms m) ∧ (markE ms m ≠ 0 → h1 = h) ∧
     (markE ms m = 0 → h1.get pb = some (.cells (rbC false lv (ms.set m.m.toNat m)) false)) ∧ h.n ≤ h1.n ∧ (∀ b, b < h.n → b ≠ pb → h1.get b = h.get b) ∧ (∀ N, N ≤ pb → N ≤ h.low → N ≤ h1.low) := by
 refine acall_facts (R := fun v1 h1 => v1 = .int .i64 (markE ms m) ∧ (markE ms m ≠ 0 → h1 = h) ∧
     (markE ms m = 0 → h1.get pb = some (.cells (rbC false lv (ms.set m.m.toNat m)) false)) ∧ h.n ≤ h1.n ∧ (∀ b, b < h.n → b ≠ pb → h1.get b = h.get b) ∧ (∀ N, N ≤ pb → N ≤ h.low → N ≤ h1.low)) ho tbl65 ?_
 simp only [Ef.settle_fst1]
 have bx : ∀ (hh : AH), boxV (.agg m.cells) hh = some (.ptr (some (hh.n, 0)), hh.push (.cells m.cells false)) := fun hh => boxV_agg _ rfl
 have g1 : ∀ b, b < h.n → ((h.withLow h.n).push (.cells m.cells false)).get b = h.get b := fun b hb => by rw [Hp.get_push_ne _ _ _ (by simp; omega)]; rfl
 have hb1 := (g1 pb hpb).trans hb
 have f1 := hS _ _ hb1 (rb_0 _ _ _)
 have k1 := rb_1 false lv ms
 have m0 : m.cells[0]? = some (.int .u8 m.m) := rfl
 have m1 : m.cells[1]? = some (.str m.s) := rfl
 have m2 : m.cells[2]? = some (.int .i64 m.p) := rfl
 have m3 : m.cells[3]? = some (.int .i64 m.h) := rfl
 have y1 : (pb = h.n) = False := by simp; omega
 have stay : ∀ (H : AH) (e : Int), h.n ≤ H.low → Fs.settle h H (.int .i64 e) = (.int .i64 e, h) := fun H e hh => settle_keep hh rfl
 refine GD ?_
 have done : ∀ e : Int, markE ms m = e → e ≠ 0 → ∀ H : AH, h.n ≤ H.low → (AV.int .i64 e = .int .i64 (markE ms m) ∧ (markE ms m ≠ 0 → (Fs.settle h H (.int .i64 e)).2 = h) ∧
     (markE ms m = 0 → (Fs.settle h H (.int .i64 e)).2.get pb = some (.cells (rbC false lv (ms.set m.m.toNat m)) false)) ∧ h.n ≤ (Fs.settle h H (.int .i64 e)).2.n ∧ (∀ b, b < h.n → b ≠ pb → (Fs.settle h H (.int .i64 e)).2.get b = h.get b) ∧ (∀ N, N ≤ pb → N ≤ h.low → N ≤ (Fs.settle h H (.int .i64 e)).2.low)) := fun e e1 e2 H hh => by
  rw [stay H e hh]
  exact ⟨by rw [e1], fun _ => rfl, fun q => absurd (e1.symm.trans q) e2, Nat.le_refl _, fun _ _ _ => rfl, fun _ _ hN => hN⟩
 have wb : ∀ n : Int, winB n = (!decide (n < -9) && !decide ((9 : Int) < n)) := fun n => by
  unfold winB
  rw [Bool.eq_iff_iff]
  simp
 by_cases hbad : badM m = true
 case pos =>
  have e2 : markE ms m = 2 := by unfold markE; rw [if_pos hbad]
  have fin := done 2 e2 (by decide)
  clear done
  cases h1 : decide (m.m < 1) with
  | true =>
    (have fct := Fj @bx (Fj @f1 (Fj @hb (Fj @k1 (Fj @y1 (Fj @m0 (Fj @m2 (Fj @m3 (Fj @h1 (Fj @op_nilchk @nilcV_ptr))))))))); refine GO ?_; clear fct)
    exact ⟨.inr rfl, .int .i64 2, rfl, fin _ (by simp)⟩
  | false =>
    cases h2 : decide ((4 : Int) < m.m) with
    | true =>
      (have fct := Fj @bx (Fj @f1 (Fj @hb (Fj @k1 (Fj @y1 (Fj @m0 (Fj @m2 (Fj @m3 (Fj @h1 (Fj @h2 (Fj @op_nilchk @nilcV_ptr)))))))))); refine GO ?_; clear fct)
      exact ⟨.inr rfl, .int .i64 2, rfl, fin _ (by simp)⟩
    | false =>
      cases h3 : decide (m.p < -9) with
      | true =>
        (have fct := Fj @bx (Fj @f1 (Fj @hb (Fj @k1 (Fj @y1 (Fj @m0 (Fj @m2 (Fj @m3 (Fj @h1 (Fj @h2 (Fj @h3 (Fj @op_nilchk @nilcV_ptr))))))))))); refine GO ?_; clear fct)
        exact ⟨.inr rfl, .int .i64 2, rfl, fin _ (by simp)⟩
      | false =>
        cases h4 : decide ((9 : Int) < m.p) with
        | true =>
          (have fct := Fj @bx (Fj @f1 (Fj @hb (Fj @k1 (Fj @y1 (Fj @m0 (Fj @m2 (Fj @m3 (Fj @h1 (Fj @h2 (Fj @h3 (Fj @h4 (Fj @op_nilchk @nilcV_ptr)))))))))))); refine GO ?_; clear fct)
          exact ⟨.inr rfl, .int .i64 2, rfl, fin _ (by simp)⟩
        | false =>
          cases h5 : decide (m.h < -9) with
          | true =>
            (have fct := Fj @bx (Fj @f1 (Fj @hb (Fj @k1 (Fj @y1 (Fj @m0 (Fj @m2 (Fj @m3 (Fj @h1 (Fj @h2 (Fj @h3 (Fj @h4 (Fj @h5 (Fj @op_nilchk @nilcV_ptr))))))))))))); refine GO ?_; clear fct)
            exact ⟨.inr rfl, .int .i64 2, rfl, fin _ (by simp)⟩
          | false =>
            cases h6 : decide ((9 : Int) < m.h) with
            | true =>
              (have fct := Fj @bx (Fj @f1 (Fj @hb (Fj @k1 (Fj @y1 (Fj @m0 (Fj @m2 (Fj @m3 (Fj @h1 (Fj @h2 (Fj @h3 (Fj @h4 (Fj @h5 (Fj @h6 (Fj @op_nilchk @nilcV_ptr)))))))))))))); refine GO ?_; clear fct)
              exact ⟨.inr rfl, .int .i64 2, rfl, fin _ (by simp)⟩
            | false => simp [badM, wb, h1, h2, h3, h4, h5, h6] at hbad
 have hbad' : badM m = false := by simpa using hbad
 unfold badM at hbad'
 rw [wb, wb] at hbad'
 simp only [Bool.or_eq_false_iff, Bool.not_eq_false', Bool.and_eq_true, Bool.not_eq_true'] at hbad'
 obtain ⟨⟨⟨h1, h2⟩, h3, h4⟩, h5, h6⟩ := hbad'
 have nN := hN m.s
 by_cases hnm : Ef.isName m.s = false
 case pos =>
  have e2 : markE ms m = 4 := by unfold markE; rw [if_neg hbad, if_pos hnm]
  rw [hnm] at nN
  (have fct := Fj @bx (Fj @f1 (Fj @hb (Fj @k1 (Fj @y1 (Fj @m0 (Fj @m1 (Fj @m2 (Fj @m3 (Fj @h1 (Fj @h2 (Fj @h3 (Fj @h4 (Fj @h5 (Fj @h6 (Fj @nN (Fj @op_nilchk @nilcV_ptr)))))))))))))))); refine GO ?_; clear fct)
  exact ⟨.inr rfl, .int .i64 4, rfl, done 4 e2 (by decide) _ (by simp)⟩
 rw [show Ef.isName m.s = true by simpa using hnm] at nN
 have q1 := of_decide_eq_false h1
 have q2 := of_decide_eq_false h2
 obtain ⟨k, hk⟩ : ∃ k : Nat, m.m = (k : Int) := ⟨m.m.toNat, by omega⟩
 have hk5 : k < 5 := by omega
 have hkn : m.m.toNat = k := by omega
 obtain ⟨x, hx⟩ : ∃ x, ms[k]? = some x := ⟨_, List.getElem?_eq_getElem (by omega)⟩
 rw [hk] at m0 h1 h2
 have hne : m.s ≠ [] := fun e => hnm (by rw [e]; rfl)
 (have fct := Fj @bx (Fj @f1 (Fj @hb (Fj @k1 (Fj @y1 (Fj @m0 (Fj @m1 (Fj @m2 (Fj @m3 (Fj @h1 (Fj @h2 (Fj @h3 (Fj @h4 (Fj @h5 (Fj @h6 (Fj @nN (Fj @op_nilchk @nilcV_ptr)))))))))))))))); refine GO ?_; clear fct)
 refine CodeK_loop (RmkI h pb m ms k x) 4 ?_ ?_
 · refine ⟨rfl, rfl, rfl, rfl, 1, rfl, by omega, by omega, rfl, ?_, fun hk1 => by omega⟩
   obtain ⟨z, hz, hzs⟩ := hz0
   rw [List.take_add_one, hz]
   simp only [List.take_zero, List.nil_append, Option.toList_some, List.any_cons, List.any_nil, Bool.or_false, hzs]
   exact decide_eq_false fun e => hne e.symm
 clear f1 nN bx
 intro n tm H I
 obtain ⟨i, hni, hi1, hi, e5, hany, hxk⟩ := I.st
 have el := I.len
 have e0 := I.t0
 have t3 := I.t3
 obtain rfl := I.hp
 clear I
 have hb2 := hb1
 by_cases hlt : i < 5
 case neg =>
  obtain rfl : i = 5 := by omega
  have l1 : decide (((5 : Nat) : Int) ≤ 4) = false := rfl
  rw [List.take_of_length_le (by omega)] at hany
  have e2 : markE ms m = 0 := by
   unfold markE dupM
   rw [if_neg hbad, if_neg hnm, hkn, hx]
   simp only [hxk hk5, hany, Bool.or_self, Bool.false_eq_true, if_false]
  have a1 := fun (hh : AH) => iaddrA_nat (h := hh) (n := 5) (esz := 4) (b := pb) (o := 12) (k := .u8) hk5
  have l9 : (12 + (k * 4 + 4) ≤ (rbC false lv ms).length) = True := by rw [rb_len, hm]; simp; omega
  have o1 := rb_setm false lv m (show k < ms.length by omega)
  have z1 := mrk_one m
  have z2 := mrk_len m
  have z3 : m.cells.take 4 = m.cells := rfl
  (have fct := Fj @el (Fj @e0 (Fj @t3 (Fj @e5 (Fj @l1 (Fj @hb (Fj @y1 (Fj @m0 (Fj @a1 (Fj @l9 (Fj @o1 (Fj @z1 (Fj @z2 (Fj @z3 (Fj @op_nilchk (Fj @nilcV_ptr @Ef.op_iaddrA))))))))))))))); refine GOD ?_; clear fct)
  refine ⟨.inr rfl, .int .i64 0, by simp [resAll, resOne, el], ?_⟩
  have hst2 : ∀ cs : List AV, Fs.settle h (((h.withLow h.n).push (.cells m.cells false)).set pb (.cells cs false)) (.int .i64 0) = (.int .i64 0, (((h.withLow h.n).push (.cells m.cells false)).set pb (.cells cs false)).withLow (min h.low (min h.n pb))) := fun cs => by
   unfold Fs.settle
   rw [if_neg (fun hh => by have := hh.1; simp at this; omega)]
   rfl
  rw [hst2, hkn]
  refine ⟨by rw [e2], fun hh => absurd e2 hh, fun _ => Hp.get_set_self _ _ _, by simp, fun b hb hne => ?_, fun N hN1 hN2 => by simp; omega⟩
  rw [Hp.get_withLow, Hp.get_set_ne _ _ _ _ hne, g1 b hb]
 case pos =>
 have l1 : decide ((i : Int) ≤ 4) = true := by rw [decide_eq_true_eq]; omega
 obtain ⟨y, hy⟩ : ∃ y, ms[i]? = some y := ⟨_, List.getElem?_eq_getElem (by omega)⟩
 have a2 := fun (hh : AH) => iaddrA_nat (h := hh) (n := 5) (esz := 4) (b := pb) (o := 12) (k := .i64) hlt
 have w1 : IntKind.wrap .i64 ((i : Int) + 1) = ((i + 1 : Nat) : Int) := by rw [wrap_i64 (by omega) (by omega)]; omega
 have w2 : IntKind.wrap .u8 (i : Int) = (i : Int) := by
  have : i = 1 ∨ i = 2 ∨ i = 3 ∨ i = 4 := by omega
  rcases this with rfl | rfl | rfl | rfl <;> decide
 have c1 : (rbC false lv ms)[12 + i * 4]? = some (.int .u8 y.m) := rb_mark false lv (j := 0) hy (by decide)
 have c2 : (rbC false lv ms)[12 + (i * 4 + 1)]? = some (.str y.s) := rb_mark false lv (j := 1) hy (by decide)
 have go : ∀ hik : ((i : Int) == (k : Int)) = true, (y.m != 0) = true → markE ms m = 5 := fun hik hh => by
  have : i = k := by have := beq_iff_eq.1 hik; omega
  subst this
  rw [hx] at hy
  cases hy
  unfold markE dupM
  rw [if_neg hbad, if_neg hnm, hkn, hx]
  simp only [hh, Bool.true_or, if_true]
 have next : ∀ (d1 : decide (y.s = m.s) = false), (k < i + 1 → (x.m != 0) = false) → ∀ tm2 : List AV, tm2.length = 82 → tm2.getD 0 AV.undef = .ptr (some (pb, 0)) → tm2.getD 3 AV.undef = .ptr (some (h.n, 0)) → tm2.getD 5 AV.undef = .int .i64 ((i + 1 : Nat) : Int) →
     ∃ m', m' < n ∧ RmkI h pb m ms k x m' tm2 ((h.withLow h.n).push (.cells m.cells false)) := fun d1 hx2 tm2 a b c d => ⟨5 - (i + 1), by omega, a, b, c, rfl, i + 1, rfl, by omega, by omega, d, any_take hy hany d1, hx2⟩
 cases hik : ((i : Int) == (k : Int)) with
 | true =>
   cases hz : (y.m != 0) with
   | true =>
     (have fct := Fj @el (Fj @e0 (Fj @t3 (Fj @e5 (Fj @l1 (Fj @hb (Fj @y1 (Fj @m0 (Fj @m1 (Fj @a2 (Fj @c1 (Fj @c2 (Fj @w2 (Fj @hik (Fj @hz (Fj @op_nilchk (Fj @nilcV_ptr @Ef.op_iaddrA)))))))))))))))); refine GODN ?_; clear fct)
     exact ⟨.inr rfl, .int .i64 5, by simp [resAll, resOne, el], done 5 (go hik hz) (by decide) _ (by simp)⟩
   | false =>
     have hx2 : k < i + 1 → (x.m != 0) = false := fun _ => by
      have : i = k := by have := beq_iff_eq.1 hik; omega
      subst this
      rw [hx] at hy
      cases hy
      exact hz
     by_cases hq : y.s = m.s
     · have d1 : decide (y.s = m.s) = true := decide_eq_true hq
       have e2 : markE ms m = 5 := by
        unfold markE dupM
        rw [if_neg hbad, if_neg hnm, any_hit hy hq, Bool.or_true, if_pos rfl]
       (have fct := Fj @el (Fj @e0 (Fj @t3 (Fj @e5 (Fj @l1 (Fj @hb (Fj @y1 (Fj @m0 (Fj @m1 (Fj @a2 (Fj @c1 (Fj @c2 (Fj @w2 (Fj @hik (Fj @hz (Fj @d1 (Fj fsAstr (Fj @op_nilchk (Fj @nilcV_ptr @Ef.op_iaddrA)))))))))))))))))); refine GODN ?_; clear fct)
       exact ⟨.inr rfl, .int .i64 5, by simp [resAll, resOne, el], done 5 e2 (by decide) _ (by simp)⟩
     · have d1 : decide (y.s = m.s) = false := decide_eq_false hq
       (have fct := Fj @el (Fj @e0 (Fj @t3 (Fj @e5 (Fj @l1 (Fj @hb (Fj @y1 (Fj @m0 (Fj @m1 (Fj @a2 (Fj @c1 (Fj @c2 (Fj @w1 (Fj @w2 (Fj @hik (Fj @hz (Fj @d1 (Fj fsAstr (Fj @op_nilchk (Fj @nilcV_ptr @Ef.op_iaddrA))))))))))))))))))); refine GODN ?_; clear fct)
       exact next d1 hx2 _ (by simp only [List.length_set, el]) (by simp only [fsTm, Nat.reduceBEq, Nat.reduceLT, el, e0]) (by simp only [fsTm, Nat.reduceBEq, Nat.reduceLT, el, t3]) (by simp only [fsTm, Nat.reduceBEq, Nat.reduceLT, el])
 | false =>
   have hx2 : k < i + 1 → (x.m != 0) = false := fun hh => hxk (by have := beq_eq_false_iff_ne.1 hik; omega)
   by_cases hq : y.s = m.s
   · have d1 : decide (y.s = m.s) = true := decide_eq_true hq
     have e2 : markE ms m = 5 := by
      unfold markE dupM
      rw [if_neg hbad, if_neg hnm, any_hit hy hq, Bool.or_true, if_pos rfl]
     (have fct := Fj @el (Fj @e0 (Fj @t3 (Fj @e5 (Fj @l1 (Fj @hb (Fj @y1 (Fj @m0 (Fj @m1 (Fj @a2 (Fj @c1 (Fj @c2 (Fj @w2 (Fj @hik (Fj @d1 (Fj fsAstr (Fj @op_nilchk (Fj @nilcV_ptr @Ef.op_iaddrA))))))))))))))))); refine GODN ?_; clear fct)
     exact ⟨.inr rfl, .int .i64 5, by simp [resAll, resOne, el], done 5 e2 (by decide) _ (by simp)⟩
   · have d1 : decide (y.s = m.s) = false := decide_eq_false hq
     (have fct := Fj @el (Fj @e0 (Fj @t3 (Fj @e5 (Fj @l1 (Fj @hb (Fj @y1 (Fj @m0 (Fj @m1 (Fj @a2 (Fj @c1 (Fj @c2 (Fj @w1 (Fj @w2 (Fj @hik (Fj @d1 (Fj fsAstr (Fj @op_nilchk (Fj @nilcV_ptr @Ef.op_iaddrA)))))))))))))))))); refine GODN ?_; clear fct)
     exact next d1 hx2 _ (by simp only [List.length_set, el]) (by simp only [fsTm, Nat.reduceBEq, Nat.reduceLT, el, e0]) (by simp only [fsTm, Nat.reduceBEq, Nat.reduceLT, el, t3]) (by simp only [fsTm, Nat.reduceBEq, Nat.reduceLT, el])
end Go.Proofs.Cards
