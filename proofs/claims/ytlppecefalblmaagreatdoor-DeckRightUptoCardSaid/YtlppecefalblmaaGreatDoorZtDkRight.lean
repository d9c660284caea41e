/- The law DeckRight, walked. -/
import Derived.Test.YtlppecefalblmaaGreatDoorFz05
import Derived.Test.YtlppecefalblmaaGreatDoorZtDkPure
namespace Go.Proofs.Cards
set_option maxRecDepth 100000
set_option maxHeartbeats 32000000
open Go Go.Fs
set_option linter.unusedSimpArgs false
set_option linter.unusedVariables false
variable {orc : Orc}
def cf6 : CF := ⟨142, [(.tmp 4)], (.seq (.region [Zo 2 (.box (.t 0)), Zo 4 (.mv (.c (.bool false)))]) (.seq (.region [Zo 16 (.call (.f 32) []), Zm 5 16]) (.seq (.seq (.region [Zf 17 0 2, Zl 18 17, Zo 19 (.lenV (.t 18)), Zb 20 .gtr (.t 19) (.c (.int .i64 80)), Zm 21 20, Zg 22 (.faddr 1 (.t 2)) 21 false, Zg 23 (.load none (.t 22)) 21 false, Zg 24 (.lenV (.t 23)) 21 false, Zg 25 (.bin .gtr .other (.t 24) (.c (.int .i64 20))) 21 false, Zo 26 (.pick (.t 21) (.c (.bool true)) (.t 25)), Zm 27 26, Zg 28 (.mv (.t 1)) 27 false, Zg 29 (.lenV (.t 28)) 27 false, Zg 30 (.bin .gtr .other (.t 29) (.c (.int .i64 300))) 27 false, Zo 31 (.pick (.t 27) (.c (.bool true)) (.t 30))]) (.cond (.t 31) (.seq (.region [Zm 32 5, Zm 4 32]) .ret) .skip)) (.seq (.region [Zo 34 (.load (some 3) (.t 2)), Zo 35 (.call (.f 19) [(.t 34)]), Zm 33 35, Ze 36 0 33, Ze 37 1 33, Ze 38 2 33, Zm 6 36, Zm 7 37, Zm 8 38]) (.seq (.region [Zm 39 6, Zm 40 1, Zo 41 (.call (.f 25) [(.t 39), (.t 40)]), Zo 9 (.alloc [(.int .i64 0), (.int .i64 0)]), Zn (.store 2 (.t 9) (.t 41))]) (.seq (.seq (.region [Zm 42 6, Zo 43 (.call (.f 33) [(.t 42)]), Zo 44 (.un .not (.t 43))]) (.cond (.t 44) (.seq (.region [Zm 45 5, Zm 46 45, Zg 47 (.load (some 2) (.t 9)) 46 true, Zg 48 (.build [(.int .i64 0), (.int .i64 0)] [(0, (1, (.c (.int .i64 2)))), (1, (1, (.c (.int .i64 (-1)))))]) 46 true, Zg 49 (.bin .eql (.agg 2 [(0, .i), (1, .i)]) (.t 47) (.t 48)) 46 true, Zo 50 (.pick (.t 46) (.t 49) (.c (.bool false))), Zm 4 50]) .ret) .skip)) (.seq (.seq (.region [Zm 51 1, Zo 52 (.lenV (.t 51)), Zb 53 .lss (.t 52) (.c (.int .i64 12)), Zm 54 53, Zg 55 (.mv (.t 1)) 54 false, Zg 56 (.lenV (.t 55)) 54 false, Zg 57 (.bin .gtr .other (.t 56) (.c (.int .i64 40))) 54 false, Zo 58 (.pick (.t 54) (.c (.bool true)) (.t 57))]) (.cond (.t 58) (.seq (.region [Zm 59 5, Zm 60 59, Zg 61 (.load (some 2) (.t 9)) 60 true, Zg 62 (.build [(.int .i64 0), (.int .i64 0)] [(0, (1, (.c (.int .i64 9)))), (1, (1, (.c (.int .i64 (-1)))))]) 60 true, Zg 63 (.bin .eql (.agg 2 [(0, .i), (1, .i)]) (.t 61) (.t 62)) 60 true, Zo 64 (.pick (.t 60) (.t 63) (.c (.bool false))), Zm 4 64]) .ret) .skip)) (.seq (.region [Zo 10 (.mv (.c (.slice none 0 (.exact 0))))]) (.seq (.seq (.region [Zo 11 (.mv (.c (.int .i64 0)))]) (.block 0 (.loop (.seq (.seq (.region [Zm 65 11, Zm 66 1, Zo 67 (.lenV (.t 66)), Zb 68 .lss (.t 65) (.t 67)]) (.cond (.t 68) .skip (.exit 0))) (.seq (.block 1 (.seq (.region [Zm 71 10, Zm 72 1, Zm 73 1, Zo 74 (.lenV (.t 73)), Zb 75 .sub (.t 74) (.c (.int .i64 1)), Zm 76 11, Zb 77 .sub (.t 75) (.t 76), Zo 78 (.iaddrS 1 (.t 72) (.t 77)), Zl 79 78, Zo 80 (.litS 1 1 [(.int .i64 0)] [(0, (1, (.t 79)))]), Zo 81 (.append 1 8 (.t 71) (.t 80)), Zm 10 81]) (.seq (.region [Zm 83 6, Zm 84 1, Zm 85 11, Zo 86 (.iaddrS 1 (.t 84) (.t 85)), Zl 87 86, Zo 88 (.call (.f 34) [(.t 83), (.t 87)]), Zm 82 88, Ze 89 0 82, Ze 90 1 82, Zo 12 (.alloc [(.str []), (.int .u8 0), (.int .u8 0), (.int .i64 0), (.int .i64 0), (.int .i64 0), (.int .u16 0), (.bool false), (.slice none 0 (.exact 0))]), Zn (.store 9 (.t 12) (.t 89)), Zm 13 90]) (.seq (.region [Zo 14 (.mv (.c (.int .i64 0)))]) (.seq (.seq (.region [Zo 15 (.mv (.c (.int .i64 0)))]) (.block 2 (.loop (.seq (.seq (.region [Zm 91 15, Zm 92 11, Zb 93 .lss (.t 91) (.t 92)]) (.cond (.t 93) .skip (.exit 2))) (.seq (.block 3 (.seq (.regionD [⟨Zm 96 1, 0, 0, false⟩, ⟨Zm 97 15, 0, 0, false⟩, ⟨Zo 98 (.iaddrS 1 (.t 96) (.t 97)), 0, 0, false⟩, ⟨Zl 99 98, 0, 0, false⟩, ⟨Zm 100 1, 0, 0, false⟩, ⟨Zm 101 11, 0, 0, false⟩, ⟨Zo 102 (.iaddrS 1 (.t 100) (.t 101)), 0, 0, false⟩, ⟨Zl 103 102, 0, 0, false⟩, ⟨Zb 104 .eql (.t 99) (.t 103), 0, 0, false⟩]) (.cond (.t 104) (.region [Zm 105 14, Zb 106 .add (.t 105) (.c (.int .i64 1)), Zm 14 106]) .skip))) (.region [Zm 94 15, Zb 95 .add (.t 94) (.c (.int .i64 1)), Zm 15 95])))))) (.seq (.seq (.region [Zm 107 13, Zb 108 .neq (.t 107) (.c (.int .i64 0))]) (.cond (.t 108) (.seq (.region [Zm 109 5, Zm 110 109, Zg 111 (.load (some 2) (.t 9)) 110 true, Zg 112 (.mv (.t 11)) 110 true, Zg 113 (.build [(.int .i64 0), (.int .i64 0)] [(0, (1, (.c (.int .i64 6)))), (1, (1, (.t 112)))]) 110 true, Zg 114 (.bin .eql (.agg 2 [(0, .i), (1, .i)]) (.t 111) (.t 113)) 110 true, Zo 115 (.pick (.t 110) (.t 114) (.c (.bool false))), Zm 4 115]) .ret) .skip)) (.seq (.region [Zf 116 7 12, Zl 117 116, Zm 118 117, Zg 119 (.mv (.t 14)) 118 false, Zg 120 (.bin .geq .other (.t 119) (.c (.int .i64 3))) 118 false, Zo 121 (.pick (.t 118) (.c (.bool true)) (.t 120))]) (.cond (.t 121) (.seq (.region [Zm 122 5, Zm 123 122, Zg 124 (.load (some 2) (.t 9)) 123 true, Zg 125 (.mv (.t 11)) 123 true, Zg 126 (.build [(.int .i64 0), (.int .i64 0)] [(0, (1, (.c (.int .i64 9)))), (1, (1, (.t 125)))]) 123 true, Zg 127 (.bin .eql (.agg 2 [(0, .i), (1, .i)]) (.t 124) (.t 126)) 123 true, Zo 128 (.pick (.t 123) (.t 127) (.c (.bool false))), Zm 4 128]) .ret) .skip)))))))) (.region [Zm 69 11, Zb 70 .add (.t 69) (.c (.int .i64 1)), Zm 11 70])))))) (.seq (.region [Zm 129 5, Zm 130 129, Zg 131 (.load (some 2) (.t 9)) 130 true, Zg 132 (.build [(.int .i64 0), (.int .i64 0)] []) 130 true, Zg 133 (.bin .eql (.agg 2 [(0, .i), (1, .i)]) (.t 131) (.t 132)) 130 true, Zo 134 (.pick (.t 130) (.t 133) (.c (.bool false))), Zm 135 134, Zg 136 (.mv (.t 6)) 135 true, Zg 137 (.mv (.t 10)) 135 true, Zg 138 (.call (.f 25) [(.t 136), (.t 137)]) 135 true, Zg 139 (.build [(.int .i64 0), (.int .i64 0)] []) 135 true, Zg 140 (.bin .eql (.agg 2 [(0, .i), (1, .i)]) (.t 138) (.t 139)) 135 true, Zo 141 (.pick (.t 135) (.t 140) (.c (.bool false))), Zm 4 141]) .ret))))))))))⟩
theorem tbl6 : tbl Tryz.prog 6 = some cf6 := by kernel_rfl
theorem Fill.mono {h X : AH} {fv mv : AV} {fs : List Cv} {fds : List Cd} {mks : List Mrk} (F : Fill h fv mv fs fds mks) (hn : h.n ≤ X.n) (hX : ∀ b, b < h.n → X.get b = h.get b) : Fill X fv mv fs fds mks :=
 ⟨F.cards.mono hn hX, F.marks.mono hn hX, F.same, fun i x d h1 h2 => by obtain ⟨a, b, c⟩ := F.are i x d h1 h2; exact ⟨a, b.mono hn hX, c⟩, F.big, F.mrng⟩
abbrev f1 (n : Int) : List AV := [AV.int .i64 n]
theorem f1_len (n : Int) : (f1 n).length = 1 := rfl
theorem f1_one (n : Int) : (f1 n).all AV.one = true := rfl
theorem row_ints {M : Nat} {h : AH} {v : AV} {l : List Int} (r : RowW f1 1 M h v l) (hr : ∀ x ∈ l, IntKind.min .i64 ≤ x ∧ x ≤ IntKind.max .i64) : Ints .i64 h v l := by
 rcases r with ⟨rfl, rfl⟩ | ⟨b, h1, h2, rfl, h4, h5⟩
 · exact ⟨_, _, rfl, hr, .inl rfl⟩
 · refine ⟨_, _, rfl, hr, .inr ⟨b, _, _, rfl, h2, h4, fun i x hx => ?_⟩⟩
   have := row_cell (k := 1) f1_len hx (j := 0) (by decide)
   simpa using this
theorem lit1 {call : Rec} {tm : List AV} {h : AH} (t : Nat) (y : Int) (ht : tm.getD t AV.undef = .int .i64 y) : runOp call (.litS 1 1 [.int .i64 0] [(0, 1, .t t)]) tm h = some (.slice (some (h.n, 0)) 1 (.exact 1), h.push (.cells (f1 y) false)) := by
 have e : fillA tm (reps [.int .i64 0] 1) [(0, 1, .t t)] = some (f1 y) := by
  simp only [fillA, CA.ev, ht, AV.cells, reps]
  rfl
 rw [op_litS, e]
 simp only [f1_one, if_true]
structure RtI (h H1 : AH) (pa : Nat) (ds : List Cd) (c1 c2 : Int) (v : AV) (l : List Int) (n : Nat) (tm : List AV) (H : AH) : Prop where
 len : tm.length = 142
 t1 : tm.getD 1 AV.undef = v
 t5 : tm.getD 5 AV.undef = .bool true
 t6 : tm.getD 6 AV.undef = .ptr (some (pa, 0))
 t9 : tm.getD 9 AV.undef = .ptr (some (H1.n, 0))
 got : H.get H1.n = some (.cells [.int .i64 c1, .int .i64 c2] false)
 qn : H1.n < H.n
 old : ∀ b, b < H1.n → H.get b = H1.get b
 low : h.n ≤ H.low
 st : ∃ (i : Nat) (out : AV), n = l.length - i ∧ i ≤ l.length ∧ tm.getD 11 AV.undef = .int .i64 (i : Int) ∧ tm.getD 10 AV.undef = out ∧ RowW f1 1 (H1.n + 1) H out (l.reverse.take i) ∧ ckF ds [] l = ckF ds (l.take i) (l.drop i)
structure RjI (pa q : Nat) (v : AV) (l : List Int) (i : Nat) (x : Int) (out : AV) (cb : Nat) (e : Int) (Hc : AH) (n : Nat) (tm : List AV) (H : AH) : Prop where
 len : tm.length = 142
 t1 : tm.getD 1 AV.undef = v
 t5 : tm.getD 5 AV.undef = .bool true
 t6 : tm.getD 6 AV.undef = .ptr (some (pa, 0))
 t9 : tm.getD 9 AV.undef = .ptr (some (q, 0))
 t10 : tm.getD 10 AV.undef = out
 t11 : tm.getD 11 AV.undef = .int .i64 (i : Int)
 t12 : tm.getD 12 AV.undef = .ptr (some (cb, 0))
 t13 : tm.getD 13 AV.undef = .int .i64 e
 hp : H = Hc
 st : ∃ k : Nat, n = i - k ∧ k ≤ i ∧ tm.getD 15 AV.undef = .int .i64 (k : Int) ∧ tm.getD 14 AV.undef = .int .i64 (((l.take k).count x : Nat) : Int)
theorem right_walk (ho : orc 6 = none) (B : BTold orc) {fv mv : AV} {op : Bool} {fs : List Cv} {fds : List Cd} {mks : List Mrk} {v : AV} {l : List Int} {h0 h : AH} (hg : Grown h0 h)
    (hfv : ∃ a c, fv = .slice a fs.length c) (hmv : ∃ a c, mv = .slice a mks.length c) (hF : fs.length ≤ 80 → mks.length ≤ 20 → Fill h fv mv fs fds mks) (hv : Ints .i64 h v l)
    (hAw : ∀ H, Grown h0 H → acall orc T 32 [] H = some (.bool true, H))
    (hCk : ∀ (pa N : Nat) (ds : List Cd) (ms : List Mrk) (sh : Bool) (xs zs : List Cv) (v : AV) (l : List Int) (H : AH), Bk1 pa N ds ms sh H xs zs → Ints .i64 H v l → acall orc T 25 [.ptr (some (pa, 0)), v] H = some (flt (chkD sh ds l).1 (chkD sh ds l).2, H))
    (hAt : ∀ (pa N : Nat) (ds : List Cd) (ms : List Mrk) (sh : Bool) (xs zs : List Cv) (M : Nat) (n : Int) (H : AH), Bk1 pa N ds ms sh H xs zs → M ≤ H.n → ∃ v1 h1, acall orc T 34 [.ptr (some (pa, 0)), .int .i64 n] H = some (v1, h1) ∧ Ef.Kp M H h1 ∧ AtR h1 (atD sh ds n) v1) :
    acall orc T 6 [.agg [fv, mv, .bool op], v] h = some (.bool true, h) := by
 refine acall_sym ho tbl6 ?_
 obtain ⟨fa, fc, rfl⟩ := hfv
 obtain ⟨ma, mc, rfl⟩ := hmv
 obtain ⟨va, vc, hve, hrng, _⟩ := id hv
 have bx : ∀ (hh : AH), boxV (.agg [.slice fa fs.length fc, .slice ma mks.length mc, .bool op]) hh = some (.ptr (some (hh.n, 0)), hh.push (.cells [.slice fa fs.length fc, .slice ma mks.length mc, .bool op] false)) := fun hh => boxV_agg _ rfl
 have lvL : ∀ hh, lenV v hh = some (.int .i64 (l.length : Int), hh) := fun hh => by rw [hve]; rfl
 have aw := hAw ((h.withLow h.n).push (.cells [.slice fa fs.length fc, .slice ma mks.length mc, .bool op] false)) ((hg.low _).push _)
 refine GD ?_
 by_cases q1 : 80 < fs.length
 · have d1 : decide ((80 : Int) < (fs.length : Int)) = true := decide_eq_true (by omega)
   (have fct := Fj @bx (Fj @aw @d1); refine GOD ?_; clear fct)
   (have fct := trivial; refine A_end ?_; clear fct; try exact trivial)
 have d1 : decide ((80 : Int) < (fs.length : Int)) = false := decide_eq_false (by omega)
 by_cases q2 : 20 < mks.length
 · have d2 : decide ((20 : Int) < (mks.length : Int)) = true := decide_eq_true (by omega)
   (have fct := Fj @bx (Fj @aw (Fj @d1 @d2)); refine GOD ?_; clear fct)
   (have fct := trivial; refine A_end ?_; clear fct; try exact trivial)
 have d2 : decide ((20 : Int) < (mks.length : Int)) = false := decide_eq_false (by omega)
 by_cases q3 : 300 < l.length
 · have d3 : decide ((300 : Int) < (l.length : Int)) = true := decide_eq_true (by omega)
   (have fct := Fj @bx (Fj @aw (Fj @d1 (Fj @d2 (Fj @d3 @lvL)))); refine GOD ?_; clear fct)
   (have fct := trivial; refine A_end ?_; clear fct; try exact trivial)
 have d3 : decide ((300 : Int) < (l.length : Int)) = false := decide_eq_false (by omega)
 have F := hF (by omega) (by omega)
 have g1 : ∀ b, b < h.n → ((h.withLow h.n).push (.cells [.slice fa fs.length fc, .slice ma mks.length mc, .bool op] false)).get b = h.get b := fun b hb => by rw [Hp.get_push_ne _ _ _ (by simp; omega)]; rfl
 obtain ⟨w1, H1, e1, pa, pb, xs, zs, ys, lv, rfl, hpa, K, kn1, fr1, lw1⟩ := books_spec (orc := orc) B (op := op) (F.mono (by simp) g1)
 simp only [Hp.n_push, Hp.n_withLow, Hp.low_push, Hp.low_withLow] at hpa kn1 fr1 lw1
 have old1 : ∀ b, b < h.n → H1.get b = h.get b := fun b hb => by rw [fr1 b (by omega)]; exact g1 b hb
 have lo1 : h.n ≤ H1.low := lw1 _ (by omega) (by omega)
 have hab := K.ab
 have hbn := K.bn
 have B1 : Bk1 pa (pb + 1) (filled fds) (marked mks) (shutB op (filled fds)) H1 xs zs := ⟨K.a, K.l64, K.ax, by omega, fun d hd => by
  rcases mem_fold fds [] d hd with h | h
  · simp at h
  · obtain ⟨i, hi⟩ := List.getElem?_of_mem h
    have hlt := (List.getElem?_eq_some_iff.1 hi).1
    obtain ⟨x, hx⟩ : ∃ x, fs[i]? = some x := ⟨_, List.getElem?_eq_getElem (by rw [F.same]; exact hlt)⟩
    exact (F.are i x d hx hi).2.2.1⟩
 have ck := hCk pa (pb + 1) (filled fds) (marked mks) (shutB op (filled fds)) xs zs v l H1 B1 (hv.mono (by omega) fun b hb => old1 b hb)
 generalize hsh : shutB op (filled fds) = sh at *
 generalize hds : filled fds = ds at *
 generalize hms : marked mks = ms at *
 unfold flt at ck
 generalize hc1 : (chkD sh ds l).1 = c1 at *
 generalize hc2 : (chkD sh ds l).2 = c2 at *
 clear K hF F g1
 (have fct := Fj @bx (Fj @aw (Fj @d1 (Fj @d2 (Fj @d3 (Fj @lvL (Fj @e1 (Fj @ck @ov_f))))))); refine GOD ?_; clear fct)
 have g2 : ((H1.push (.cells [.int .i64 0, .int .i64 0] false)).set H1.n (.cells [.int .i64 c1, .int .i64 c2] false)).get pa = some (.cells (bkC sh xs.length (xs ++ zs) ms) false) := by rw [Hp.get_set_ne _ _ _ _ (by omega), Hp.get_push_ne _ _ _ (by omega)]; exact B1.a
 have sl := sealed_spec (orc := orc) (fun f hf => B.none f (by simp only [List.mem_cons, List.not_mem_nil, or_false] at hf ⊢; rcases hf with rfl | rfl <;> simp)) g2 (bk_0 _ _ _ _) (bk_1 _ _ _ _)
 cases sh with
 | false =>
   obtain rfl : 2 = c1 := hc1
   obtain rfl : -1 = c2 := hc2
   (have fct := Fj @sl (Fj @ov_a @ov_b); refine GOD ?_; clear fct)
   (have fct := trivial; refine A_end ?_; clear fct; try exact trivial)
   exact ⟨lo1, by omega⟩
 | true =>
 by_cases q4 : l.length < 12
 · have d4 : decide ((l.length : Int) < 12) = true := decide_eq_true (by omega)
   have e : chkD true ds l = (9, -1) := by unfold chkD; rw [if_neg (by decide), if_pos (.inl q4)]
   obtain rfl : 9 = c1 := by rw [← hc1, e]
   obtain rfl : -1 = c2 := by rw [← hc2, e]
   (have fct := Fj @sl (Fj @ov_a (Fj @ov_b (Fj @lvL @d4))); refine GOD ?_; clear fct)
   (have fct := trivial; refine A_end ?_; clear fct; try exact trivial)
   exact ⟨lo1, by omega⟩
 have d4 : decide ((l.length : Int) < 12) = false := decide_eq_false (by omega)
 by_cases q5 : 40 < l.length
 · have d5 : decide ((40 : Int) < (l.length : Int)) = true := decide_eq_true (by omega)
   have e : chkD true ds l = (9, -1) := by unfold chkD; rw [if_neg (by decide), if_pos (.inr q5)]
   obtain rfl : 9 = c1 := by rw [← hc1, e]
   obtain rfl : -1 = c2 := by rw [← hc2, e]
   (have fct := Fj @sl (Fj @ov_a (Fj @ov_b (Fj @lvL (Fj @d4 @d5)))); refine GOD ?_; clear fct)
   (have fct := trivial; refine A_end ?_; clear fct; try exact trivial)
   exact ⟨lo1, by omega⟩
 have d5 : decide ((40 : Int) < (l.length : Int)) = false := decide_eq_false (by omega)
 (have fct := Fj @sl (Fj @ov_a (Fj @ov_b (Fj @lvL (Fj @d4 @d5)))); refine GOD ?_; clear fct)
 have qb := B1.pn
 refine CodeK_loop (RtI h H1 pa ds c1 c2 v l) l.length ?_ ?_
 · refine ⟨rfl, rfl, rfl, rfl, rfl, Hp.get_set_self _ _ _, by simp, fun b hb => ?_, by simp; omega, 0, _, by omega, by omega, rfl, rfl, .inl ⟨by simp, rfl⟩, rfl⟩
   rw [Hp.get_set_ne _ _ _ _ (by omega), Hp.get_push_ne _ _ _ (by omega)]
 clear sl g2 ck e1 aw bx lo1 fr1 lw1
 have hqn : h.n ≤ H1.n := by omega
 intro n tm H I
 obtain ⟨i, out, hni, hi, e11, e10, row, hck⟩ := I.st
 have el := I.len
 have t1 := I.t1
 have t5 := I.t5
 have t6 := I.t6
 have t9 := I.t9
 have got := I.got
 have qn := I.qn
 have old := I.old
 have lo := I.low
 have bk : Bk1 pa (pb + 1) ds ms true H xs zs := B1.off (by omega) old
 clear I
 by_cases hlt : i < l.length
 case neg =>
  obtain rfl : i = l.length := by omega
  have l1 : decide ((l.length : Int) < (l.length : Int)) = false := by rw [decide_eq_false_iff_not]; omega
  rw [List.drop_length] at hck
  have e2 : ckF ds [] l = none := by rw [hck]; rfl
  have e3 := chkD_ok q4 q5 e2
  obtain rfl : 0 = c1 := by rw [← hc1, e3]
  obtain rfl : 0 = c2 := by rw [← hc2, e3]
  have row' : RowW f1 1 (H1.n + 1) H out l.reverse := by
   have : l.reverse.take l.length = l.reverse := List.take_of_length_le (by simp)
   rw [← this]; exact row
  have c9 := hCk pa (pb + 1) ds ms true xs zs out l.reverse H bk (row_ints row' fun x hx => hrng x (List.mem_reverse.1 hx))
  have e4 : chkD true ds l.reverse = (0, 0) := chkD_ok (by rw [List.length_reverse]; exact q4) (by rw [List.length_reverse]; exact q5) (ckF_rev e2)
  rw [e4] at c9
  unfold flt at c9
  (have fct := Fj @el (Fj @t1 (Fj @t5 (Fj @t6 (Fj @t9 (Fj @e10 (Fj @e11 (Fj @lvL (Fj @l1 (Fj @got (Fj @c9 (Fj @ov_a @ov_b))))))))))); refine GOD ?_; clear fct)
  (have fct := @el; refine A_end ?_; clear fct; try exact trivial)
  exact lo
 case pos =>
 have l1 : decide ((i : Int) < (l.length : Int)) = true := by rw [decide_eq_true_eq]; omega
 obtain ⟨x, hx⟩ : ∃ x, l[i]? = some x := ⟨_, List.getElem?_eq_getElem hlt⟩
 have hj : l.length - 1 - i < l.length := by omega
 obtain ⟨y, hy⟩ : ∃ y, l[l.length - 1 - i]? = some y := ⟨_, List.getElem?_eq_getElem hj⟩
 obtain ⟨rb, rcells, rro, rc, hv2, hrb, hrg, hcell⟩ := ints_at hv hx
 obtain ⟨rb', rcells', rro', rc', hv3, hrb', hrg', hcell'⟩ := ints_at hv hy
 have hg0 := ((old rb (by omega)).trans (old1 rb hrb)).trans hrg
 have hg1 := ((old rb' (by omega)).trans (old1 rb' hrb')).trans hrg'
 have a1 := fun (hh : AH) => iaddrV_nat (h := hh) (esz := 1) (b := rb) (o := 0) (c := rc) (k := .i64) hlt
 rw [← hv2] at a1
 have a2 := fun (hh : AH) => iaddrV_nat (h := hh) (esz := 1) (b := rb') (o := 0) (c := rc') (k := .i64) hj
 rw [← hv3] at a2
 have w1 : IntKind.wrap .i64 ((i : Int) + 1) = ((i + 1 : Nat) : Int) := by rw [wrap_i64 (by omega) (by omega)]; omega
 have w3 : IntKind.wrap .i64 ((l.length : Int) - 1) = ((l.length - 1 : Nat) : Int) := by rw [wrap_i64 (by omega) (by omega)]; omega
 have w4 : IntKind.wrap .i64 (((l.length - 1 : Nat) : Int) - (i : Int)) = ((l.length - 1 - i : Nat) : Int) := by rw [wrap_i64 (by omega) (by omega)]; omega
 have o1 : ∀ a b : AV, Fs.over [a] 0 [b] = [b] := fun _ _ => rfl
 rw [ckF_at hx] at hck
 (have fct := Fj @el (Fj @t1 (Fj @t5 (Fj @t6 (Fj @t9 (Fj @e10 (Fj @e11 (Fj @lvL (Fj @l1 (Fj @hg1 (Fj @hcell' (Fj @a2 (Fj @w3 (Fj @w4 (Fj @o1 (Fj @Nat.mul_one @Nat.zero_add))))))))))))))); refine GOD ?_; clear fct)
 have tk : (l.reverse.take i).length = i := by rw [List.length_take, List.length_reverse]; omega
 refine R_cons (tm' := List.set _ 80 _) (lit1 79 y (by simp only [fsTm, Nat.reduceBEq, Nat.reduceLT, el])) rfl ?_
 refine R_ex (by simp (maxDischargeDepth := 12) only [opsB, Nat.reduceEqDiff, Nat.reduceBEq, Nat.reduceBNe, Int.reduceBEq, Int.reduceBNe, Int.reduceLT, Int.reduceLE, Int.reduceEq, AV.one, AV.cells, CA.ev, abin, aint, aun, isShift, readVar, readCell, readCells, writeCells, fillA, reduceIte, Nat.reduceAdd, Nat.reduceSub, Nat.reduceLT, Nat.reduceLeDiff, resAll, resOne, AV.under, AV.unders, cut, op_append, el, e10, fsTm, Nat.reduceBEq, Nat.reduceLT]; (first | done | with_reducible rfl)) (app_row (f := f1) (a := y) (bytes := 8) f1_len (by decide) f1_one (row.keep (by simp) fun b _ hb => Hp.get_push_ne _ _ _ (by omega)) (by simp; omega) (by omega) (by omega) (Hp.get_push_self _ _)) fun v2 H2 hh => ?_
 obtain ⟨row2, hn2, hf2, hg2, hlo2, hv2'⟩ := hh
 refine R_tm (tm' := List.set _ 81 _) rfl ?_
 simp only [Hp.n_push] at hn2
 have k2 : ∀ b, b < H1.n + 1 → H2.get b = H.get b := fun b hb => by rw [hf2 b hb, Hp.get_push_ne _ _ _ (by omega)]
 have lo2 : h.n ≤ H2.low := hlo2 _ (by omega) (by simpa using lo)
 have hg02 := (k2 rb (by omega)).trans hg0
 have bk2 : Bk1 pa (pb + 1) ds ms true H2 xs zs := B1.off (by omega) fun b hb => (k2 b (by omega)).trans (old b hb)
 (have fct := Fj @el (Fj @t1 (Fj @t5 (Fj @t6 (Fj @t9 (Fj @e11 (Fj @a1 (Fj @hg02 (Fj @hcell (Fj @Nat.mul_one @Nat.zero_add))))))))); refine GOD ?_; clear fct)
 refine R_ex (by simp (maxDischargeDepth := 12) only [opsB, Nat.reduceEqDiff, Nat.reduceBEq, Nat.reduceBNe, Int.reduceBEq, Int.reduceBNe, Int.reduceLT, Int.reduceLE, Int.reduceEq, AV.one, AV.cells, CA.ev, abin, aint, aun, isShift, readVar, readCell, readCells, writeCells, fillA, reduceIte, Nat.reduceAdd, Nat.reduceSub, Nat.reduceLT, Nat.reduceLeDiff, resAll, resOne, AV.under, AV.unders, cut, el, t6, fsTm, Nat.reduceBEq, Nat.reduceLT]; (first | done | with_reducible rfl)) (hAt pa (pb + 1) ds ms true xs zs h.n x H2 bk2 (by omega)) fun v3 H3 hh => ?_
 obtain ⟨kp, har⟩ := hh
 have kn := kp.n
 refine R_tm (tm' := List.set _ 88 _) rfl ?_
 obtain ⟨c, w, e, rfl, z1, z7, hae⟩ : ∃ (c : Crd) (w : AV) (e : Int), v3 = .tuple [.agg (c.cells w), .int .i64 e] ∧ (c.cells w).all AV.one = true ∧ (c.cells w)[7]? = some (.bool c.token) ∧ ((atD true ds x = none ∧ e = 6) ∨ ∃ d, atD true ds x = some d ∧ e = 0 ∧ c.token = d.1.token) := by
  cases hat : atD true ds x with
  | none => rw [hat] at har; exact ⟨zeroC, nilV, 6, har, rfl, rfl, .inl ⟨rfl, rfl⟩⟩
  | some d =>
    rw [hat] at har
    obtain ⟨w, rfl, hpw⟩ := har
    obtain ⟨a, cap, ew, _⟩ := hpw
    exact ⟨d.1, w, 0, rfl, by rw [ew]; rfl, rfl, .inr ⟨d, rfl, rfl, rfl⟩⟩
 clear har
 (have fct := Fj @el (Fj @t1 (Fj @t5 (Fj @t6 (Fj @t9 (Fj @e11 (Fj @z1 (Fj @ov_9 @cells_len))))))); refine GOD ?_; clear fct)
 refine CodeK_loop (RjI pa H1.n v l i x v2 H3.n e ((H3.push (.cells (zeroC.cells nilV) false)).set H3.n (.cells (c.cells w) false))) i ?_ ?_
 · exact ⟨by simp only [List.length_set, el], by simp only [fsTm, Nat.reduceBEq, Nat.reduceLT, el, t1], by simp only [fsTm, Nat.reduceBEq, Nat.reduceLT, el, t5], by simp only [fsTm, Nat.reduceBEq, Nat.reduceLT, el, t6], by simp only [fsTm, Nat.reduceBEq, Nat.reduceLT, el, t9], by simp only [fsTm, Nat.reduceBEq, Nat.reduceLT, el], by simp only [fsTm, Nat.reduceBEq, Nat.reduceLT, el, e11], by simp only [fsTm, Nat.reduceBEq, Nat.reduceLT, el], by simp only [fsTm, Nat.reduceBEq, Nat.reduceLT, el], rfl, 0, by omega, by omega, by simp only [fsTm, Nat.reduceBEq, Nat.reduceLT, el]; rfl, by simp only [fsTm, Nat.reduceBEq, Nat.reduceLT, el]; rfl⟩
 have k3 : ∀ b, b < H1.n + 1 → ((H3.push (.cells (zeroC.cells nilV) false)).set H3.n (.cells (c.cells w) false)).get b = H.get b := fun b hb => by rw [Hp.get_set_ne _ _ _ _ (by omega), Hp.get_push_ne _ _ _ (by omega), kp.get b (by omega), k2 b hb]
 have gc : ((H3.push (.cells (zeroC.cells nilV) false)).set H3.n (.cells (c.cells w) false)).get H3.n = some (.cells (c.cells w) false) := Hp.get_set_self _ _ _
 have nc : ((H3.push (.cells (zeroC.cells nilV) false)).set H3.n (.cells (c.cells w) false)).n = H3.n + 1 := by simp
 have lc : h.n ≤ ((H3.push (.cells (zeroC.cells nilV) false)).set H3.n (.cells (c.cells w) false)).low := by
  have := kp.low (by omega) lo2
  simp; omega
 have rowc : RowW f1 1 (H1.n + 1) ((H3.push (.cells (zeroC.cells nilV) false)).set H3.n (.cells (c.cells w) false)) v2 (l.reverse.take i ++ [y]) := row2.keep (by omega) fun b _ hb => by rw [Hp.get_set_ne _ _ _ _ (by omega), Hp.get_push_ne _ _ _ (by omega), kp.get b hb]
 generalize ((H3.push (.cells (zeroC.cells nilV) false)).set H3.n (.cells (c.cells w) false)) = Hc at *
 have gotc := (k3 H1.n (by omega)).trans got
 have hgc := (k3 rb (by omega)).trans hg0
 clear el t1 t5 t6 t9 e11 e10 got row row2 kp hf2 hlo2 bk bk2 hg2 hv2' hg0 hg1 hg02 a2 w3 w4
 rename_i tm0
 intro n1 tm H' J
 obtain ⟨k, hnk, hk, e15, e14⟩ := J.st
 have el := J.len
 have t1 := J.t1
 have t5 := J.t5
 have t6 := J.t6
 have t9 := J.t9
 have t10 := J.t10
 have t11 := J.t11
 have t12 := J.t12
 have t13 := J.t13
 obtain rfl := J.hp
 clear J
 by_cases hki : k < i
 case pos =>
  have l2 : decide ((k : Int) < (i : Int)) = true := by rw [decide_eq_true_eq]; omega
  have hkl : k < l.length := by omega
  obtain ⟨z, hz⟩ : ∃ z, l[k]? = some z := ⟨_, List.getElem?_eq_getElem hkl⟩
  obtain ⟨sb, scells, sro, sc, hv4, hsb, hsg, hscell⟩ := ints_at hv hz
  have hg4 := ((k3 sb (by omega)).trans ((old sb (by omega)).trans (old1 sb hsb))).trans hsg
  have a4 := fun (hh : AH) => iaddrV_nat (h := hh) (esz := 1) (b := sb) (o := 0) (c := sc) (k := .i64) hkl
  rw [← hv4] at a4
  have cle : (l.take k).count x ≤ 300 := by
   have := List.count_le_length (a := x) (l := l.take k)
   rw [List.length_take] at this
   omega
  have w5 : IntKind.wrap .i64 ((k : Int) + 1) = ((k + 1 : Nat) : Int) := by rw [wrap_i64 (by omega) (by omega)]; omega
  have w6 : IntKind.wrap .i64 ((((l.take k).count x : Nat) : Int) + 1) = (((l.take k).count x + 1 : Nat) : Int) := by rw [wrap_i64 (by omega) (by omega)]; omega
  have ec : (l.take (k + 1)).count x = (l.take k).count x + if z = x then 1 else 0 := by
   rw [List.take_add_one, hz, Option.toList_some, List.count_append, List.count_singleton]
   by_cases h : z = x <;> simp [h]
  by_cases hzx : z = x
  · have d6 : (z == x) = true := by simp [hzx]
    rw [if_pos hzx] at ec
    (have fct := Fj @el (Fj @t1 (Fj @t11 (Fj @e15 (Fj @e14 (Fj @l2 (Fj @hg4 (Fj @hgc (Fj @hscell (Fj @hcell (Fj @a4 (Fj @a1 (Fj @d6 (Fj @w5 (Fj @w6 (Fj @Nat.mul_one @Nat.zero_add))))))))))))))); refine GODN ?_; clear fct)
    refine ⟨i - (k + 1), by omega, by simp only [List.length_set, el], by simp only [fsTm, Nat.reduceBEq, Nat.reduceLT, el, t1], by simp only [fsTm, Nat.reduceBEq, Nat.reduceLT, el, t5], by simp only [fsTm, Nat.reduceBEq, Nat.reduceLT, el, t6], by simp only [fsTm, Nat.reduceBEq, Nat.reduceLT, el, t9], by simp only [fsTm, Nat.reduceBEq, Nat.reduceLT, el, t10], by simp only [fsTm, Nat.reduceBEq, Nat.reduceLT, el, t11], by simp only [fsTm, Nat.reduceBEq, Nat.reduceLT, el, t12], by simp only [fsTm, Nat.reduceBEq, Nat.reduceLT, el, t13], rfl, k + 1, rfl, by omega, by simp only [fsTm, Nat.reduceBEq, Nat.reduceLT, el], ?_⟩
    rw [ec]; simp only [fsTm, Nat.reduceBEq, Nat.reduceLT, el, e14, Nat.add_zero]
  · have d6 : (z == x) = false := by simp [hzx]
    rw [if_neg hzx] at ec
    (have fct := Fj @el (Fj @t1 (Fj @t11 (Fj @e15 (Fj @e14 (Fj @l2 (Fj @hg4 (Fj @hgc (Fj @hscell (Fj @hcell (Fj @a4 (Fj @a1 (Fj @d6 (Fj @w5 (Fj @w6 (Fj @Nat.mul_one @Nat.zero_add))))))))))))))); refine GODN ?_; clear fct)
    refine ⟨i - (k + 1), by omega, by simp only [List.length_set, el], by simp only [fsTm, Nat.reduceBEq, Nat.reduceLT, el, t1], by simp only [fsTm, Nat.reduceBEq, Nat.reduceLT, el, t5], by simp only [fsTm, Nat.reduceBEq, Nat.reduceLT, el, t6], by simp only [fsTm, Nat.reduceBEq, Nat.reduceLT, el, t9], by simp only [fsTm, Nat.reduceBEq, Nat.reduceLT, el, t10], by simp only [fsTm, Nat.reduceBEq, Nat.reduceLT, el, t11], by simp only [fsTm, Nat.reduceBEq, Nat.reduceLT, el, t12], by simp only [fsTm, Nat.reduceBEq, Nat.reduceLT, el, t13], rfl, k + 1, rfl, by omega, by simp only [fsTm, Nat.reduceBEq, Nat.reduceLT, el], ?_⟩
    rw [ec]; simp only [fsTm, Nat.reduceBEq, Nat.reduceLT, el, e14, Nat.add_zero]
 case neg =>
 obtain rfl : k = i := by omega
 have l2 : decide ((k : Int) < (k : Int)) = false := by rw [decide_eq_false_iff_not]; omega
 rcases hae with ⟨hat, rfl⟩ | ⟨d, hat, rfl, htk⟩
 · rw [hat] at hck
   have e3 := chkD_at q4 q5 hck
   have u1 : c1 = 6 := by rw [← hc1, e3]
   have u2 : c2 = (k : Int) := by rw [← hc2, e3]
   rw [u1, u2] at gotc
   (have fct := Fj @el (Fj @t1 (Fj @t5 (Fj @t6 (Fj @t9 (Fj @t11 (Fj @t12 (Fj @t13 (Fj @e15 (Fj @e14 (Fj @l2 (Fj @gotc (Fj @ov_a @ov_b)))))))))))); refine GOD ?_; clear fct)
   (have fct := @el; refine A_end ?_; clear fct; try exact trivial)
   exact lc
 · rw [hat] at hck
   simp only at hck
   rw [← htk] at hck
   have w1' : IntKind.wrap .i64 ((k : Int) + 1) = ((k + 1 : Nat) : Int) := w1
   have cle : (l.take k).count x ≤ 300 := by
    have := List.count_le_length (a := x) (l := l.take k)
    rw [List.length_take] at this
    omega
   have l7 : (7 < (c.cells w).length) = True := by rw [cells_len]; simp
   cases hct : c.token with
   | true =>
     rw [hct, Bool.true_or, if_pos rfl] at hck
     rw [hct] at z7
     have e3 := chkD_at q4 q5 hck
     have u1 : c1 = 9 := by rw [← hc1, e3]
     have u2 : c2 = (k : Int) := by rw [← hc2, e3]
     rw [u1, u2] at gotc
     (have fct := Fj @el (Fj @t1 (Fj @t5 (Fj @t6 (Fj @t9 (Fj @t11 (Fj @t12 (Fj @t13 (Fj @e15 (Fj @e14 (Fj @l2 (Fj @gc (Fj @z7 (Fj @l7 (Fj @gotc (Fj @ov_a @ov_b))))))))))))))); refine GOD ?_; clear fct)
     (have fct := @el; refine A_end ?_; clear fct; try exact trivial)
     exact lc
   | false =>
     rw [hct, Bool.false_or] at hck
     rw [hct] at z7
     by_cases h3 : 3 ≤ (l.take k).count x
     · rw [decide_eq_true h3, if_pos rfl] at hck
       have e3 := chkD_at q4 q5 hck
       have u1 : c1 = 9 := by rw [← hc1, e3]
       have u2 : c2 = (k : Int) := by rw [← hc2, e3]
       rw [u1, u2] at gotc
       have d3 : decide ((3 : Int) ≤ (((l.take k).count x : Nat) : Int)) = true := decide_eq_true (by omega)
       (have fct := Fj @el (Fj @t1 (Fj @t5 (Fj @t6 (Fj @t9 (Fj @t11 (Fj @t12 (Fj @t13 (Fj @e15 (Fj @e14 (Fj @l2 (Fj @gc (Fj @z7 (Fj @l7 (Fj @gotc (Fj @d3 (Fj @ov_a @ov_b)))))))))))))))); refine GOD ?_; clear fct)
       (have fct := @el; refine A_end ?_; clear fct; try exact trivial)
       exact lc
     · rw [decide_eq_false h3, if_neg (by decide)] at hck
       have d3 : decide ((3 : Int) ≤ (((l.take k).count x : Nat) : Int)) = false := decide_eq_false (by omega)
       (have fct := Fj @el (Fj @t1 (Fj @t5 (Fj @t6 (Fj @t9 (Fj @t10 (Fj @t11 (Fj @t12 (Fj @t13 (Fj @e15 (Fj @e14 (Fj @l2 (Fj @gc (Fj @z7 (Fj @l7 (Fj @gotc (Fj @d3 @w1)))))))))))))))); refine GOD ?_; clear fct)
       refine ⟨l.length - (k + 1), by omega, by simp only [List.length_set, el], by simp only [fsTm, Nat.reduceBEq, Nat.reduceLT, el, t1], by simp only [fsTm, Nat.reduceBEq, Nat.reduceLT, el, t5], by simp only [fsTm, Nat.reduceBEq, Nat.reduceLT, el, t6], by simp only [fsTm, Nat.reduceBEq, Nat.reduceLT, el, t9], gotc, by omega, fun b hb => (k3 b (by omega)).trans (old b hb), lc, k + 1, v2, rfl, by omega, by simp only [fsTm, Nat.reduceBEq, Nat.reduceLT, el], by simp only [fsTm, Nat.reduceBEq, Nat.reduceLT, el, t10], ?_, hck⟩
       rw [rev_take hlt, (List.getElem?_eq_some_iff.1 hy).2]
       exact rowc
end Go.Proofs.Cards
