/- (*book.Book).Card: a card put into the program's book. -/
import Derived.Test.YtlppecefalblmaaGreatDoorFz05
import Derived.Test.YtlppecefalblmaaGreatDoorZtBkMem
namespace Go.Proofs.Cards
set_option maxRecDepth 100000
set_option maxHeartbeats 32000000
open Go Go.Fs
set_option linter.unusedSimpArgs false
set_option linter.unusedVariables false
variable {orc : Orc}
def cf61 : CF := ⟨76, [(.tmp 4)], (.seq (.region [Zo 3 (.box (.t 1)), Zo 4 (.mv (.c (.int .i64 0)))]) (.seq (.seq (.region [Zm 8 0, Zo 9 (.call (.f 117) [(.t 8)]), Zm 5 9]) (.seq (.region [Zm 10 5, Zb 11 .neq (.t 10) (.c (.int .i64 0))]) (.cond (.t 11) (.seq (.region [Zm 12 5, Zm 4 12]) .ret) .skip))) (.seq (.seq (.region [Zo 13 (.load (some 9) (.t 3)), Zo 14 (.call (.f 8) [(.t 13)]), Zm 6 14]) (.block 0 (.seq (.region [Zm 16 6, Zb 17 .neq (.t 16) (.c (.int .i64 0)), Zm 15 17]) (.cond (.t 15) (.seq (.region [Zm 18 6, Zm 4 18]) .ret) (.seq (.region [Zm 20 0, Zf 21 0 3, Zl 22 21, Zo 23 (.call (.f 118) [(.t 20), (.t 22)]), Zb 24 .geq (.t 23) (.c (.int .i64 0)), Zm 19 24]) (.cond (.t 19) (.seq (.region [Zo 4 (.mv (.c (.int .i64 5)))]) .ret) (.seq (.region [Zm 26 0, Zo 27 (.nilchk (.t 26)), Zf 28 2 27, Zl 29 28, Zb 30 .geq (.t 29) (.c (.int .i64 64)), Zm 25 30]) (.cond (.t 25) (.seq (.region [Zo 4 (.mv (.c (.int .i64 14)))]) .ret) .skip)))))))) (.seq (.region [Zm 31 0, Zo 32 (.nilchk (.t 31)), Zf 33 2 32, Zl 34 33, Zm 7 34]) (.seq (.block 1 (.loop (.seq (.seq (.regionD [⟨Zm 35 7, 0, 0, false⟩, ⟨Zb 36 .gtr (.t 35) (.c (.int .i64 0)), 0, 0, false⟩, ⟨Zm 37 36, 0, 0, false⟩, ⟨Zg 38 (.load (some 9) (.t 3)) 37 true, 0, 0, false⟩, ⟨Zg 39 (.mv (.t 0)) 37 true, 0, 0, false⟩, ⟨Zg 40 (.mv (.t 7)) 37 true, 0, 0, false⟩, ⟨Zg 41 (.bin .sub .other (.t 40) (.c (.int .i64 1))) 37 true, 0, 0, false⟩, ⟨Zg 42 (.nilchk (.t 39)) 37 true, 0, 0, false⟩, ⟨Zg 43 (.faddr 3 (.t 42)) 37 true, 0, 0, false⟩, ⟨Zg 44 (.iaddrA 64 9 (.t 43) (.t 41)) 37 true, 0, 0, false⟩, ⟨Zg 45 (.load (some 9) (.t 44)) 37 true, 0, 0, false⟩, ⟨Zg 46 (.call (.f 119) [(.t 38), (.t 45)]) 37 true, 0, 1, false⟩, ⟨Zo 47 (.pick (.t 37) (.t 46) (.c (.bool false))), 1, 1, false⟩]) (.cond (.t 47) .skip (.exit 1))) (.seq (.block 2 (.regionD [⟨Zm 50 0, 0, 0, false⟩, ⟨Zm 51 7, 0, 0, false⟩, ⟨Zm 52 0, 0, 0, false⟩, ⟨Zm 53 7, 0, 0, false⟩, ⟨Zb 54 .sub (.t 53) (.c (.int .i64 1)), 0, 0, false⟩, ⟨Zo 55 (.nilchk (.t 52)), 0, 0, false⟩, ⟨Zf 56 3 55, 0, 0, false⟩, ⟨Zo 57 (.iaddrA 64 9 (.t 56) (.t 54)), 0, 0, false⟩, ⟨Zo 58 (.load (some 9) (.t 57)), 0, 0, false⟩, ⟨Zo 59 (.nilchk (.t 50)), 0, 0, false⟩, ⟨Zf 60 3 59, 0, 0, false⟩, ⟨Zo 61 (.iaddrA 64 9 (.t 60) (.t 51)), 0, 0, false⟩, ⟨Zn (.store 9 (.t 61) (.t 58)), 0, 1, false⟩])) (.region [Zm 48 7, Zb 49 .sub (.t 48) (.c (.int .i64 1)), Zm 7 49]))))) (.seq (.regionD [⟨Zm 62 0, 0, 1, false⟩, ⟨Zm 63 7, 0, 1, false⟩, ⟨Zo 64 (.load (some 9) (.t 3)), 0, 0, false⟩, ⟨Zo 65 (.call (.f 10) [(.t 64)]), 0, 1, false⟩, ⟨Zo 66 (.nilchk (.t 62)), 0, 1, false⟩, ⟨Zf 67 3 66, 0, 1, false⟩, ⟨Zo 68 (.iaddrA 64 9 (.t 67) (.t 63)), 1, 1, false⟩, ⟨Zn (.store 9 (.t 68) (.t 65)), 1, 2, false⟩]) (.seq (.region [Zm 69 0, Zo 70 (.nilchk (.t 69)), Zf 71 2 70, Zl 72 71, Zb 73 .add (.t 72) (.c (.int .i64 1)), Zo 74 (.nilchk (.t 69)), Zf 75 2 74, Zn (.store 1 (.t 75) (.t 73))]) (.seq (.region [Zo 4 (.mv (.c (.int .i64 0)))]) .ret))))))))⟩
theorem tbl61 : tbl Tryz.prog 61 = some cf61 := by kernel_rfl
structure Cv where
 c : Crd
 a : Option (Nat × Nat)
 n : Nat
 cap : Cap
def Cv.sl (x : Cv) : AV := .slice x.a x.n x.cap
def Cv.cells (x : Cv) : List AV := x.c.cells x.sl
theorem cv_len (x : Cv) : x.cells.length = 9 := rfl
theorem cv_one (x : Cv) : x.cells.all AV.one = true := rfl
def zeroV : Cv := ⟨zeroC, none, 0, .exact 0⟩
structure Mrk where
 m : Int
 s : List UInt8
 p : Int
 h : Int
 deriving DecidableEq
def Mrk.cells (x : Mrk) : List AV := [.int .u8 x.m, .str x.s, .int .i64 x.p, .int .i64 x.h]
theorem mrk_len (x : Mrk) : x.cells.length = 4 := rfl
theorem mrk_one (x : Mrk) : x.cells.all AV.one = true := rfl
def hdB (s : Bool) (n : Nat) : List AV := [.bool true, .bool s, .int .i64 (n : Int)]
def tlB (ms : List Mrk) : List AV := List.replicate 9 (.str []) ++ ms.flatMap Mrk.cells
def bkC (s : Bool) (n : Nat) (L : List Cv) (ms : List Mrk) : List AV := hdB s n ++ L.flatMap Cv.cells ++ tlB ms
theorem bk_0 (s : Bool) (n : Nat) (L : List Cv) (ms : List Mrk) : (bkC s n L ms)[0]? = some (.bool true) := rfl
theorem bk_1 (s : Bool) (n : Nat) (L : List Cv) (ms : List Mrk) : (bkC s n L ms)[1]? = some (.bool s) := rfl
theorem bk_2 (s : Bool) (n : Nat) (L : List Cv) (ms : List Mrk) : (bkC s n L ms)[2]? = some (.int .i64 (n : Int)) := rfl
theorem bk_seal (s t : Bool) (n : Nat) (L : List Cv) (ms : List Mrk) : Fs.over (bkC s n L ms) 1 [.bool t] = bkC t n L ms := rfl
theorem bk_num (s : Bool) (n m : Nat) (L : List Cv) (ms : List Mrk) : Fs.over (bkC s n L ms) 2 [.int .i64 (m : Int)] = bkC s m L ms := rfl
theorem bk_len (s : Bool) (n : Nat) (L : List Cv) (ms : List Mrk) : (bkC s n L ms).length = 3 + L.length * 9 + (9 + ms.length * 4) := by
 unfold bkC tlB
 rw [List.length_append, List.length_append, List.length_append, rows_len cv_len, rows_len mrk_len, List.length_replicate]
 rfl
theorem bk_at (s : Bool) (n : Nat) {L : List Cv} (ms : List Mrk) {i : Nat} {x : Cv} (h : L[i]? = some x) : ((bkC s n L ms).drop (3 + i * 9)).take 9 = x.cells ∧ 3 + i * 9 + 9 ≤ (bkC s n L ms).length := rows_at (pre := hdB s n) cv_len h
theorem bk_cell (s : Bool) (n : Nat) {L : List Cv} (ms : List Mrk) {i j : Nat} {x : Cv} (h : L[i]? = some x) (hj : j < 9) : (bkC s n L ms)[3 + i * 9 + j]? = x.cells[j]? := rows_cell (pre := hdB s n) cv_len h hj
theorem bk_over (s : Bool) (n : Nat) {L : List Cv} (ms : List Mrk) {i : Nat} (x : Cv) (h : i < L.length) : Fs.over (bkC s n L ms) (3 + i * 9) x.cells = bkC s n (L.set i x) ms := rows_over (pre := hdB s n) cv_len x h
theorem bk_one (s : Bool) (n : Nat) (L : List Cv) (ms : List Mrk) : (bkC s n L ms).all AV.one = true := by
 unfold bkC tlB
 rw [List.all_append, List.all_append, List.all_append, rows_one cv_one, rows_one mrk_one]
 rfl
theorem bk_names (s : Bool) (n : Nat) (xs zs : List Cv) (ms : List Mrk) : ∀ (i : Nat) x, (xs.map (·.c.name))[i]? = some x → (bkC s n (xs ++ zs) ms)[3 + i * 9]? = some (.str x) := fun i x h => by
 rw [List.getElem?_map, Option.map_eq_some_iff] at h
 obtain ⟨y, hy, rfl⟩ := h
 have hi := (List.getElem?_eq_some_iff.1 hy).1
 exact bk_cell s n (j := 0) ms (by rw [List.getElem?_append_left hi]; exact hy) (by decide)
def ahAt (c : Crd) (xs : List Crd) (i : Nat) : Bool := match xs[i]? with | some x => aheadB c x | none => false
def posP (c : Crd) (xs : List Crd) : Nat → Nat
 | 0 => 0
 | i + 1 => if ahAt c xs i = true then posP c xs i else i + 1
def cardE (ns : List (List UInt8)) (c : Crd) (ps : List Prt) : Int := if chkC c ps ≠ 0 then chkC c ps else if 0 ≤ plc ns c.name 0 then 5 else if 64 ≤ ns.length then 14 else 0
structure CaI (h : AH) (pa : Nat) (c : Crd) (v : AV) (xs : List Cv) (zs : List Cv) (ms : List Mrk) (n : Nat) (tm : List AV) (H : AH) : Prop where
 len : tm.length = 76
 t0 : tm.getD 0 AV.undef = .ptr (some (pa, 0))
 t3 : tm.getD 3 AV.undef = .ptr (some (h.n, 0))
 bx : H.get h.n = some (.cells (c.cells v) false)
 hn : H.n = h.n + 1
 old : ∀ b, b < h.n → b ≠ pa → H.get b = h.get b
 low : min h.n pa ≤ H.low
 st : ∃ (y : Cv), n ≤ xs.length ∧ tm.getD 7 AV.undef = .int .i64 (n : Int) ∧ posP c (xs.map (·.c)) xs.length = posP c (xs.map (·.c)) n ∧ H.get pa = some (.cells (bkC false xs.length (xs.take n ++ y :: (xs.drop n ++ zs)) ms) false)
theorem bcard_spec (ho : orc 61 = none) {pa : Nat} {xs zs : List Cv} {ms : List Mrk} (c : Crd) (v : AV) (ps : List Prt) {h : AH} (hb : h.get pa = some (.cells (bkC false xs.length (xs ++ zs) ms) false)) (hpa : pa < h.n) (hl : xs.length + zs.length = 64) (hw : Own (pa + 1) h v ps) (hps : ps.length * 40 ≤ 140737488355328)
    (hS : ∀ (H : AH) (cs : List AV), H.get pa = some (.cells cs false) → cs[0]? = some (.bool true) → cs[1]? = some (.bool false) → acall orc T 117 [.ptr (some (pa, 0))] H = some (.int .i64 0, H))
    (hK : ∀ (v : AV) (H : AH), Parts H v ps → acall orc T 8 [.agg (c.cells v)] H = some (.int .i64 (chkC c ps), H))
    (hP : ∀ (H : AH), H.get pa = some (.cells (bkC false xs.length (xs ++ zs) ms) false) → acall orc T 118 [.ptr (some (pa, 0)), .str c.name] H = some (.int .i64 (plc (xs.map (·.c.name)) c.name 0), H))
    (hA : ∀ (x : Cv) (a : Option (Nat × Nat)) (n : Nat) (cap : Cap) (H : AH), acall orc T 119 [.agg (c.cells (.slice a n cap)), .agg x.cells] H = some (.bool (aheadB c x.c), H))
    (hC : ∀ (N : Nat) (v : AV) (X : AH), Parts X v ps → N ≤ X.n → ∃ v1 h1, acall orc T 10 [.agg (c.cells v)] X = some (v1, h1) ∧ ∃ v', v1 = .agg (c.cells v') ∧ Ef.Kp N X h1 ∧ Parts h1 v' ps ∧ Own X.n h1 v' ps) :
    ∃ v1 h1, acall orc T 61 [.ptr (some (pa, 0)), .agg (c.cells v)] h = some (v1, h1) ∧ v1 = .int .i64 (cardE (xs.map (·.c.name)) c ps) ∧ (cardE (xs.map (·.c.name)) c ps ≠ 0 → h1 = h) ∧
     (cardE (xs.map (·.c.name)) c ps = 0 → ∃ (cv : Cv) (y : Cv) (zs' : List Cv), zs = y :: zs' ∧ cv.c = c ∧ Own h.n h1 cv.sl ps ∧ h1.get pa = some (.cells (bkC false (xs.length + 1) (xs.take (posP c (xs.map (·.c)) xs.length) ++ cv :: (xs.drop (posP c (xs.map (·.c)) xs.length) ++ zs')) ms) false)) ∧
     h.n ≤ h1.n ∧ (∀ b, b < h.n → b ≠ pa → h1.get b = h.get b) ∧ (∀ N, N ≤ pa → N ≤ h.low → N ≤ h1.low) := by
 refine acall_facts (R := fun v1 h1 => v1 = .int .i64 (cardE (xs.map (·.c.name)) c ps) ∧ (cardE (xs.map (·.c.name)) c ps ≠ 0 → h1 = h) ∧
     (cardE (xs.map (·.c.name)) c ps = 0 → ∃ (cv : Cv) (y : Cv) (zs' : List Cv), zs = y :: zs' ∧ cv.c = c ∧ Own h.n h1 cv.sl ps ∧ h1.get pa = some (.cells (bkC false (xs.length + 1) (xs.take (posP c (xs.map (·.c)) xs.length) ++ cv :: (xs.drop (posP c (xs.map (·.c)) xs.length) ++ zs')) ms) false)) ∧
     h.n ≤ h1.n ∧ (∀ b, b < h.n → b ≠ pa → h1.get b = h.get b) ∧ (∀ N, N ≤ pa → N ≤ h.low → N ≤ h1.low)) ho tbl61 ?_
 simp only [Ef.settle_fst1]
 have hp0 := own_prt hw (by omega)
 obtain ⟨a, cap, rfl⟩ := hw.slice
 have bx : ∀ (hh : AH), boxV (.agg (c.cells (.slice a ps.length cap))) hh = some (.ptr (some (hh.n, 0)), hh.push (.cells (c.cells (.slice a ps.length cap)) false)) := fun hh => boxV_agg _ rfl
 have x0 : (c.cells (.slice a ps.length cap))[0]? = some (.str c.name) := rfl
 have g1 : ∀ b, b < h.n → ((h.withLow h.n).push (.cells (c.cells (.slice a ps.length cap)) false)).get b = h.get b := fun b hb => by rw [Hp.get_push_ne _ _ _ (by simp; omega)]; rfl
 have hb1 := (g1 pa hpa).trans hb
 have p1 : Parts ((h.withLow h.n).push (.cells (c.cells (.slice a ps.length cap)) false)) (.slice a ps.length cap) ps := hp0.mono (by simp) g1
 have f1 := hS _ _ hb1 (bk_0 _ _ _ _) (bk_1 _ _ _ _)
 have f2 := hK _ _ p1
 have f3 := hP _ hb1
 have k2 := bk_2 false xs.length (xs ++ zs) ms
 have y1 : (pa = h.n) = False := by simp; omega
 have stay : ∀ e : Int, Fs.settle h ((h.withLow h.n).push (.cells (c.cells (.slice a ps.length cap)) false)) (.int .i64 e) = (.int .i64 e, h) := fun e => settle_keep (by simp) rfl
 refine GD ?_
 by_cases q1 : chkC c ps = 0
 case neg =>
  have e1 : (chkC c ps != 0) = true := by simp [q1]
  have e2 : cardE (xs.map (·.c.name)) c ps = chkC c ps := by unfold cardE; rw [if_pos q1]
  (have fct := Fj @bx (Fj @f1 (Fj @f2 (Fj @e1 (Fj @cells_len @cells_take)))); refine GO ?_; clear fct)
  rw [e2]
  refine ⟨.inr rfl, .int .i64 (chkC c ps), rfl, ?_⟩
  rw [stay]
  exact ⟨rfl, fun _ => rfl, fun h => absurd h q1, Nat.le_refl _, fun _ _ _ => rfl, fun _ _ hN => hN⟩
 have e1 : (chkC c ps != 0) = false := by simp [q1]
 by_cases q2 : 0 ≤ plc (xs.map (·.c.name)) c.name 0
 case pos =>
  have e3 : decide (0 ≤ plc (xs.map (·.c.name)) c.name 0) = true := decide_eq_true q2
  have e2 : cardE (xs.map (·.c.name)) c ps = 5 := by unfold cardE; rw [if_neg (by simpa using q1), if_pos q2]
  (have fct := Fj @bx (Fj @f1 (Fj @f2 (Fj @f3 (Fj @e1 (Fj @e3 (Fj @x0 (Fj @cells_len @cells_take))))))); refine GO ?_; clear fct)
  rw [e2]
  refine ⟨.inr rfl, .int .i64 5, rfl, ?_⟩
  rw [stay]
  exact ⟨rfl, fun _ => rfl, fun h => absurd h (by decide), Nat.le_refl _, fun _ _ _ => rfl, fun _ _ hN => hN⟩
 have e3 : decide (0 ≤ plc (xs.map (·.c.name)) c.name 0) = false := decide_eq_false q2
 by_cases q3 : 64 ≤ xs.length
 case pos =>
  have e4 : decide ((64 : Int) ≤ (xs.length : Int)) = true := decide_eq_true (by omega)
  have e2 : cardE (xs.map (·.c.name)) c ps = 14 := by unfold cardE; rw [if_neg (by simpa using q1), if_neg q2, if_pos (by simpa using q3)]
  (have fct := Fj @bx (Fj @f1 (Fj @f2 (Fj @f3 (Fj @e1 (Fj @e3 (Fj @e4 (Fj @x0 (Fj @hb (Fj @k2 (Fj @y1 (Fj @op_nilchk (Fj @nilcV_ptr (Fj @cells_len @cells_take))))))))))))); refine GO ?_; clear fct)
  rw [e2]
  refine ⟨.inr rfl, .int .i64 14, rfl, ?_⟩
  rw [stay]
  exact ⟨rfl, fun _ => rfl, fun h => absurd h (by decide), Nat.le_refl _, fun _ _ _ => rfl, fun _ _ hN => hN⟩
 have e4 : decide ((64 : Int) ≤ (xs.length : Int)) = false := decide_eq_false (by omega)
 have e2 : cardE (xs.map (·.c.name)) c ps = 0 := by unfold cardE; rw [if_neg (by simpa using q1), if_neg q2, if_neg (by simpa using q3)]
 obtain ⟨y, zs', rfl⟩ : ∃ y zs', zs = y :: zs' := by
  cases zs with
  | nil => simp at hl; omega
  | cons y z => exact ⟨y, z, rfl⟩
 (have fct := Fj @bx (Fj @f1 (Fj @f2 (Fj @f3 (Fj @e1 (Fj @e3 (Fj @e4 (Fj @x0 (Fj @hb (Fj @k2 (Fj @y1 (Fj @op_nilchk (Fj @nilcV_ptr (Fj @cells_len @cells_take))))))))))))); refine GO ?_; clear fct)
 refine CodeK_loop (CaI h pa c (.slice a ps.length cap) xs zs' ms) xs.length ?_ ?_
 · exact ⟨rfl, rfl, rfl, Hp.get_push_self _ _, by simp, fun b hb _ => g1 b hb, by simp; omega, y, Nat.le_refl _, rfl, rfl, by rw [List.take_length, List.drop_length, List.nil_append]; exact hb1⟩
 have hl2 : xs.length + zs'.length + 1 = 64 := by simp only [List.length_cons] at hl; omega
 clear f1 f2 f3 hb1 p1 k2 bx e1 e3 e4 stay hb hS hK hP hl
 intro n tm H I
 obtain ⟨y1, hn, e7, hpos, hc⟩ := I.st
 have el := I.len
 have e0 := I.t0
 have t3 := I.t3
 have b0 := I.bx
 have Hn := I.hn
 have old := I.old
 have lo := I.low
 clear I
 have hlen : (xs.take n ++ y1 :: (xs.drop n ++ zs')).length = 64 := by
  simp only [List.length_append, List.length_take, List.length_cons, List.length_drop]
  omega
 have pH : Parts H (.slice a ps.length cap) ps := own_prt (hw.off (by omega) fun b h1 h2 => old b h2 (by omega)) (by omega)
 have hn64 : n < 64 := by omega
 have hset : ∀ x : Cv, (xs.take n ++ y1 :: (xs.drop n ++ zs')).set n x = xs.take n ++ x :: (xs.drop n ++ zs') := fun x => by
  rw [List.set_append_right _ _ (by rw [List.length_take]; omega), List.length_take, Nat.min_eq_left hn, Nat.sub_self, List.set_cons_zero]
 have a2 := fun (hh : AH) => iaddrA_nat (h := hh) (n := 64) (esz := 9) (b := pa) (o := 3) (k := .i64) hn64
 have y1' : (h.n = pa) = False := by simp; omega
 have k2 := bk_2 false xs.length (xs.take n ++ y1 :: (xs.drop n ++ zs')) ms
 rcases Nat.eq_zero_or_pos n with h0 | h0
 · have l0 : decide ((0 : Int) < (n : Int)) = false := by rw [decide_eq_false_iff_not]; omega
   have pq : posP c (xs.map (·.c)) n = n := by subst h0; rfl
   (have fct := Fj @el (Fj @e0 (Fj @t3 (Fj @e7 (Fj @l0 (Fj @b0 (Fj @hc (Fj @op_nilchk (Fj @nilcV_ptr (Fj @Ef.op_iaddrA (Fj @cells_len @cells_take)))))))))); refine GODN ?_; clear fct)
   refine D_ex rfl rfl (by simp (maxDischargeDepth := 12) only [opsB, Nat.reduceEqDiff, Nat.reduceBEq, Nat.reduceBNe, Int.reduceBEq, Int.reduceBNe, Int.reduceLT, Int.reduceLE, Int.reduceEq, AV.one, AV.cells, CA.ev, abin, aint, aun, isShift, readVar, readCell, readCells, writeCells, fillA, reduceIte, Nat.reduceAdd, Nat.reduceSub, Nat.reduceLT, Nat.reduceLeDiff, resAll, resOne, AV.under, AV.unders, cut, el, t3, fsTm, Nat.reduceBEq, Nat.reduceLT]; (first | done | with_reducible rfl)) (hC pa _ H pH (by omega)) fun v1 h1 hh => ?_
   obtain ⟨v', rfl, kp, pp, ow⟩ := hh
   obtain ⟨a', cap', rfl⟩ := ow.slice
   refine D_tm (tm' := List.set _ 65 _) rfl ?_
   have kn := kp.n
   have hc1 := (kp.get pa (by omega)).trans hc
   have z1 : (c.cells (.slice a' ps.length cap')).all AV.one = true := rfl
   have o1 : Fs.over (bkC false xs.length (xs.take n ++ y1 :: (xs.drop n ++ zs')) ms) (3 + n * 9) (c.cells (.slice a' ps.length cap')) = bkC false xs.length (xs.take n ++ (⟨c, a', ps.length, cap'⟩ : Cv) :: (xs.drop n ++ zs')) ms :=
    (bk_over false _ ms (⟨c, a', ps.length, cap'⟩ : Cv) (by rw [hlen]; exact hn64)).trans (by rw [hset])
   have l9 : (3 + (n * 9 + 9) ≤ (bkC false xs.length (xs.take n ++ y1 :: (xs.drop n ++ zs')) ms).length) = True := by rw [bk_len, hlen]; simp; omega
   have l2 : ∀ L : List Cv, (2 < (bkC false xs.length L ms).length) = True := fun L => by rw [bk_len]; simp; omega
   have l3 : ∀ L : List Cv, (3 ≤ (bkC false xs.length L ms).length) = True := fun L => by rw [bk_len]; simp; omega
   have k3 := bk_2 false xs.length (xs.take n ++ (⟨c, a', ps.length, cap'⟩ : Cv) :: (xs.drop n ++ zs')) ms
   have o2 := bk_num false xs.length (xs.length + 1) (xs.take n ++ (⟨c, a', ps.length, cap'⟩ : Cv) :: (xs.drop n ++ zs')) ms
   have w2 : IntKind.wrap .i64 ((xs.length : Int) + 1) = ((xs.length + 1 : Nat) : Int) := by rw [wrap_i64 (by omega) (by omega)]; omega
   (have fct := Fj @el (Fj @e0 (Fj @t3 (Fj @e7 (Fj @b0 (Fj @hc1 (Fj @a2 (Fj @z1 (Fj @o1 (Fj @l9 (Fj @l2 (Fj @l3 (Fj @k3 (Fj @o2 (Fj @w2 (Fj @op_nilchk (Fj @nilcV_ptr (Fj @Ef.op_iaddrA (Fj @cells_len @cells_take)))))))))))))))))); refine GODN ?_; clear fct)
   refine ⟨.inr rfl, .int .i64 0, by simp [resAll, resOne, el], ?_⟩
   have hns : ¬ (h.n ≤ min (min h1.low pa) pa) := by omega
   have hst : Fs.settle h ((h1.set pa (.cells (bkC false xs.length (xs.take n ++ (⟨c, a', ps.length, cap'⟩ : Cv) :: (xs.drop n ++ zs')) ms) false)).set pa (.cells (bkC false (xs.length + 1) (xs.take n ++ (⟨c, a', ps.length, cap'⟩ : Cv) :: (xs.drop n ++ zs')) ms) false)) (.int .i64 0) = (.int .i64 0, ((h1.set pa (.cells (bkC false xs.length (xs.take n ++ (⟨c, a', ps.length, cap'⟩ : Cv) :: (xs.drop n ++ zs')) ms) false)).set pa (.cells (bkC false (xs.length + 1) (xs.take n ++ (⟨c, a', ps.length, cap'⟩ : Cv) :: (xs.drop n ++ zs')) ms) false)).withLow (min h.low (min (min h1.low pa) pa))) := by
    unfold Fs.settle
    rw [if_neg (fun hh => hns (by simpa using hh.1))]
    rfl
   rw [hst]
   rw [hpos]
   have gg : ∀ b, b ≠ pa → (((h1.set pa (.cells (bkC false xs.length (xs.take n ++ (⟨c, a', ps.length, cap'⟩ : Cv) :: (xs.drop n ++ zs')) ms) false)).set pa (.cells (bkC false (xs.length + 1) (xs.take n ++ (⟨c, a', ps.length, cap'⟩ : Cv) :: (xs.drop n ++ zs')) ms) false)).withLow (min h.low (min (min h1.low pa) pa))).get b = h1.get b := fun b hb => by
    rw [Hp.get_withLow, Hp.get_set_ne _ _ _ _ hb, Hp.get_set_ne _ _ _ _ hb]
   refine ⟨by rw [e2], fun hh => absurd e2 hh, fun _ => ⟨⟨c, a', ps.length, cap'⟩, _, _, rfl, rfl, ?_, ?_⟩, ?_, fun b hb hne => ?_, fun N hN1 hN2 => ?_⟩
   · exact (ow.from (by omega)).off (by simp) fun b q1 q2 => gg b (by omega)
   · rw [pq]; simp
   · simp; omega
   · rw [gg b hne, kp.get b (by omega), old b hb hne]
   · have := kp.low (by omega) (by omega)
     simp; omega
 have l0 : decide ((0 : Int) < (n : Int)) = true := by rw [decide_eq_true_eq]; omega
 obtain ⟨x, hx⟩ : ∃ x, xs[n - 1]? = some x := ⟨_, List.getElem?_eq_getElem (by omega)⟩
 have hL : (xs.take n ++ y1 :: (xs.drop n ++ zs'))[n - 1]? = some x := by
  rw [List.getElem?_append_left (by rw [List.length_take]; omega), List.getElem?_take_of_lt (by omega)]; exact hx
 obtain ⟨c2, c1⟩ := bk_at false xs.length ms hL
 have c1' : (3 + ((n - 1) * 9 + 9) ≤ (bkC false xs.length (xs.take n ++ y1 :: (xs.drop n ++ zs')) ms).length) = True := by simp; omega
 have w1 : IntKind.wrap .i64 ((n : Int) - 1) = ((n - 1 : Nat) : Int) := by rw [wrap_i64 (by omega) (by omega)]; omega
 have a1 := fun (hh : AH) => iaddrA_nat (h := hh) (n := 64) (esz := 9) (b := pa) (o := 3) (k := .i64) (show n - 1 < 64 by omega)
 have fA := hA x a ps.length cap
 have hah : ahAt c (xs.map (·.c)) (n - 1) = aheadB c x.c := by unfold ahAt; rw [List.getElem?_map, hx]; rfl
 have hps1 : posP c (xs.map (·.c)) n = if ahAt c (xs.map (·.c)) (n - 1) = true then posP c (xs.map (·.c)) (n - 1) else n := by
  obtain ⟨m, rfl⟩ : ∃ m, n = m + 1 := ⟨n - 1, by omega⟩
  rfl
 rw [hah] at hps1
 cases hq : aheadB c x.c with
 | false =>
   rw [hq] at fA hps1
   have pq : posP c (xs.map (·.c)) n = n := by rw [hps1]; rfl
   (have fct := Fj @el (Fj @e0 (Fj @t3 (Fj @e7 (Fj @l0 (Fj @b0 (Fj @hc (Fj @c1' (Fj @c2 (Fj @w1 (Fj @a1 (Fj @fA (Fj @op_nilchk (Fj @nilcV_ptr (Fj @Ef.op_iaddrA (Fj @cells_len @cells_take))))))))))))))); refine GODN ?_; clear fct)
   refine D_ex rfl rfl (by simp (maxDischargeDepth := 12) only [opsB, Nat.reduceEqDiff, Nat.reduceBEq, Nat.reduceBNe, Int.reduceBEq, Int.reduceBNe, Int.reduceLT, Int.reduceLE, Int.reduceEq, AV.one, AV.cells, CA.ev, abin, aint, aun, isShift, readVar, readCell, readCells, writeCells, fillA, reduceIte, Nat.reduceAdd, Nat.reduceSub, Nat.reduceLT, Nat.reduceLeDiff, resAll, resOne, AV.under, AV.unders, cut, el, t3, fsTm, Nat.reduceBEq, Nat.reduceLT]; (first | done | with_reducible rfl)) (hC pa _ H pH (by omega)) fun v1 h1 hh => ?_
   obtain ⟨v', rfl, kp, pp, ow⟩ := hh
   obtain ⟨a', cap', rfl⟩ := ow.slice
   refine D_tm (tm' := List.set _ 65 _) rfl ?_
   have kn := kp.n
   have hc1 := (kp.get pa (by omega)).trans hc
   have z1 : (c.cells (.slice a' ps.length cap')).all AV.one = true := rfl
   have o1 : Fs.over (bkC false xs.length (xs.take n ++ y1 :: (xs.drop n ++ zs')) ms) (3 + n * 9) (c.cells (.slice a' ps.length cap')) = bkC false xs.length (xs.take n ++ (⟨c, a', ps.length, cap'⟩ : Cv) :: (xs.drop n ++ zs')) ms :=
    (bk_over false _ ms (⟨c, a', ps.length, cap'⟩ : Cv) (by rw [hlen]; exact hn64)).trans (by rw [hset])
   have l9 : (3 + (n * 9 + 9) ≤ (bkC false xs.length (xs.take n ++ y1 :: (xs.drop n ++ zs')) ms).length) = True := by rw [bk_len, hlen]; simp; omega
   have l2 : ∀ L : List Cv, (2 < (bkC false xs.length L ms).length) = True := fun L => by rw [bk_len]; simp; omega
   have l3 : ∀ L : List Cv, (3 ≤ (bkC false xs.length L ms).length) = True := fun L => by rw [bk_len]; simp; omega
   have k3 := bk_2 false xs.length (xs.take n ++ (⟨c, a', ps.length, cap'⟩ : Cv) :: (xs.drop n ++ zs')) ms
   have o2 := bk_num false xs.length (xs.length + 1) (xs.take n ++ (⟨c, a', ps.length, cap'⟩ : Cv) :: (xs.drop n ++ zs')) ms
   have w2 : IntKind.wrap .i64 ((xs.length : Int) + 1) = ((xs.length + 1 : Nat) : Int) := by rw [wrap_i64 (by omega) (by omega)]; omega
   (have fct := Fj @el (Fj @e0 (Fj @t3 (Fj @e7 (Fj @b0 (Fj @hc1 (Fj @a2 (Fj @z1 (Fj @o1 (Fj @l9 (Fj @l2 (Fj @l3 (Fj @k3 (Fj @o2 (Fj @w2 (Fj @op_nilchk (Fj @nilcV_ptr (Fj @Ef.op_iaddrA (Fj @cells_len @cells_take)))))))))))))))))); refine GODN ?_; clear fct)
   refine ⟨.inr rfl, .int .i64 0, by simp [resAll, resOne, el], ?_⟩
   have hns : ¬ (h.n ≤ min (min h1.low pa) pa) := by omega
   have hst : Fs.settle h ((h1.set pa (.cells (bkC false xs.length (xs.take n ++ (⟨c, a', ps.length, cap'⟩ : Cv) :: (xs.drop n ++ zs')) ms) false)).set pa (.cells (bkC false (xs.length + 1) (xs.take n ++ (⟨c, a', ps.length, cap'⟩ : Cv) :: (xs.drop n ++ zs')) ms) false)) (.int .i64 0) = (.int .i64 0, ((h1.set pa (.cells (bkC false xs.length (xs.take n ++ (⟨c, a', ps.length, cap'⟩ : Cv) :: (xs.drop n ++ zs')) ms) false)).set pa (.cells (bkC false (xs.length + 1) (xs.take n ++ (⟨c, a', ps.length, cap'⟩ : Cv) :: (xs.drop n ++ zs')) ms) false)).withLow (min h.low (min (min h1.low pa) pa))) := by
    unfold Fs.settle
    rw [if_neg (fun hh => hns (by simpa using hh.1))]
    rfl
   rw [hst]
   rw [hpos]
   have gg : ∀ b, b ≠ pa → (((h1.set pa (.cells (bkC false xs.length (xs.take n ++ (⟨c, a', ps.length, cap'⟩ : Cv) :: (xs.drop n ++ zs')) ms) false)).set pa (.cells (bkC false (xs.length + 1) (xs.take n ++ (⟨c, a', ps.length, cap'⟩ : Cv) :: (xs.drop n ++ zs')) ms) false)).withLow (min h.low (min (min h1.low pa) pa))).get b = h1.get b := fun b hb => by
    rw [Hp.get_withLow, Hp.get_set_ne _ _ _ _ hb, Hp.get_set_ne _ _ _ _ hb]
   refine ⟨by rw [e2], fun hh => absurd e2 hh, fun _ => ⟨⟨c, a', ps.length, cap'⟩, _, _, rfl, rfl, ?_, ?_⟩, ?_, fun b hb hne => ?_, fun N hN1 hN2 => ?_⟩
   · exact (ow.from (by omega)).off (by simp) fun b q1 q2 => gg b (by omega)
   · rw [pq]; simp
   · simp; omega
   · rw [gg b hne, kp.get b (by omega), old b hb hne]
   · have := kp.low (by omega) (by omega)
     simp; omega
 | true =>
   rw [hq] at fA hps1
   rw [if_pos rfl] at hps1
   have o3 : Fs.over (bkC false xs.length (xs.take n ++ y1 :: (xs.drop n ++ zs')) ms) (3 + n * 9) x.cells = bkC false xs.length (xs.take n ++ x :: (xs.drop n ++ zs')) ms := (bk_over false _ ms x (by rw [hlen]; exact hn64)).trans (by rw [hset])
   have l9 : (3 + (n * 9 + 9) ≤ (bkC false xs.length (xs.take n ++ y1 :: (xs.drop n ++ zs')) ms).length) = True := by rw [bk_len, hlen]; simp; omega
   have hsh : xs.take n ++ x :: (xs.drop n ++ zs') = xs.take (n - 1) ++ x :: (xs.drop (n - 1) ++ zs') := by
    obtain ⟨m, rfl⟩ : ∃ m, n = m + 1 := ⟨n - 1, by omega⟩
    simp only [Nat.add_sub_cancel] at hx ⊢
    obtain ⟨hm, he⟩ := List.getElem?_eq_some_iff.1 hx
    rw [List.take_add_one, hx, List.drop_eq_getElem_cons hm, he]
    simp
   (have fct := Fj @el (Fj @e0 (Fj @t3 (Fj @e7 (Fj @l0 (Fj @b0 (Fj @hc (Fj @c1' (Fj @c2 (Fj @w1 (Fj @a1 (Fj @a2 (Fj @fA (Fj @o3 (Fj @l9 (Fj @cv_len (Fj @cv_one (Fj @op_nilchk (Fj @nilcV_ptr (Fj @Ef.op_iaddrA (Fj @cells_len @cells_take)))))))))))))))))))); refine GODN ?_; clear fct)
   refine ⟨n - 1, by omega, by simp only [List.length_set, el], by simp only [fsTm, Nat.reduceBEq, Nat.reduceLT, el, e0], by simp only [fsTm, Nat.reduceBEq, Nat.reduceLT, el, t3], by rw [Hp.get_set_ne _ _ _ _ (by omega)]; exact b0, by simpa using Hn, fun b h1 h2 => by rw [Hp.get_set_ne _ _ _ _ h2]; exact old b h1 h2, by simp; omega, x, by omega, by simp only [fsTm, Nat.reduceBEq, Nat.reduceLT, el], by rw [hpos, hps1], ?_⟩
   rw [← hsh]
   exact Hp.get_set_self _ _ _
end Go.Proofs.Cards
