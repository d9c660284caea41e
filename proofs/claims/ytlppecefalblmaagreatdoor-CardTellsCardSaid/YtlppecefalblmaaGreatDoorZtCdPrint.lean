/- A card's text. -/
import Derived.Test.YtlppecefalblmaaGreatDoorFz05
import Derived.Test.YtlppecefalblmaaGreatDoorFz06
import Derived.Test.YtlppecefalblmaaGreatDoorZtCdList
namespace Go.Proofs.Cards
set_option maxRecDepth 100000
set_option maxHeartbeats 32000000
open Go Go.Fs
set_option linter.unusedSimpArgs false
set_option linter.unusedVariables false
variable {orc : Orc}
def cf9 : CF := ⟨82, [(.tmp 2), (.tmp 3)], (.seq (.region [Zo 1 (.box (.t 0)), Zo 2 (.mv (.c (.str []))), Zo 3 (.mv (.c (.int .i64 0)))]) (.seq (.seq (.region [Zo 12 (.load (some 9) (.t 1)), Zo 13 (.call (.f 8) [(.t 12)]), Zm 4 13]) (.seq (.region [Zm 14 4, Zb 15 .neq (.t 14) (.c (.int .i64 0))]) (.cond (.t 15) (.seq (.region [Zm 16 4, Zo 2 (.mv (.c (.str []))), Zm 3 16]) .ret) .skip))) (.seq (.regionD [⟨Zf 17 0 1, 0, 3, false⟩, ⟨Zl 18 17, 0, 3, false⟩, ⟨Zf 19 1 1, 0, 0, false⟩, ⟨Zl 20 19, 0, 0, false⟩, ⟨Zo 21 (.call (.f 38) [(.t 20)]), 0, 1, false⟩, ⟨Zf 22 2 1, 0, 1, false⟩, ⟨Zl 23 22, 0, 1, false⟩, ⟨Zo 24 (.call (.f 39) [(.t 23)]), 1, 2, false⟩, ⟨Zf 25 3 1, 0, 2, false⟩, ⟨Zl 26 25, 0, 2, false⟩, ⟨Zo 27 (.call (.f 40) [(.t 26)]), 2, 3, false⟩, ⟨Zo 28 (.litS 1 4 [(.str [])] [(0, (1, (.t 18))), (1, (1, (.t 21))), (2, (1, (.t 24))), (3, (1, (.t 27)))]), 3, 4, false⟩, ⟨Zm 5 28, 4, 4, false⟩]) (.seq (.seq (.region [Zf 29 2 1, Zl 30 29, Zb 31 .eql (.t 30) (.c (.int .u8 1))]) (.cond (.t 31) (.regionD [⟨Zm 32 5, 0, 3, false⟩, ⟨Zf 33 4 1, 0, 0, false⟩, ⟨Zl 34 33, 0, 0, false⟩, ⟨Zo 35 (.call (.f 40) [(.t 34)]), 0, 1, false⟩, ⟨Zb 36 .add (.t 35) (.c (.str [47])), 1, 2, false⟩, ⟨Zf 37 5 1, 0, 1, false⟩, ⟨Zl 38 37, 0, 1, false⟩, ⟨Zo 39 (.call (.f 40) [(.t 38)]), 1, 2, false⟩, ⟨Zb 40 .add (.t 36) (.t 39), 2, 2, false⟩, ⟨Zo 41 (.litS 1 1 [(.str [])] [(0, (1, (.t 40)))]), 2, 3, false⟩, ⟨Zo 42 (.append 1 16 (.t 32) (.t 41)), 3, 4, false⟩, ⟨Zm 5 42, 4, 4, false⟩]) .skip)) (.seq (.seq (.region [Zf 43 7 1, Zl 44 43]) (.cond (.t 44) (.region [Zm 45 5, Zo 46 (.litS 1 1 [(.str [])] [(0, (1, (.c (.str [116, 111, 107, 101, 110]))))]), Zo 47 (.append 1 16 (.t 45) (.t 46)), Zm 5 47]) .skip)) (.seq (.seq (.region [Zf 48 6 1, Zl 49 48, Zo 50 (.call (.f 41) [(.t 49)]), Zo 51 (.lenV (.t 50)), Zo 52 (.mv (.c (.int .i64 0)))]) (.block 0 (.loop (.seq (.region [Zb 53 .lss (.t 52) (.t 51)]) (.seq (.cond (.t 53) .skip (.exit 0)) (.seq (.block 1 (.seq (.region [Zo 54 (.iaddrS 1 (.t 50) (.t 52)), Zl 55 54, Zm 7 55]) (.region [Zm 56 5, Zm 57 7, Zo 58 (.call (.f 42) [(.t 57)]), Zb 59 .add (.c (.str [43])) (.t 58), Zo 60 (.litS 1 1 [(.str [])] [(0, (1, (.t 59)))]), Zo 61 (.append 1 16 (.t 56) (.t 60)), Zm 5 61]))) (.region [Zb 62 .add (.t 52) (.c (.int .i64 1)), Zm 52 62]))))))) (.seq (.seq (.region [Zf 63 8 1, Zl 64 63, Zo 65 (.lenV (.t 64)), Zo 66 (.mv (.c (.int .i64 0)))]) (.block 2 (.loop (.seq (.region [Zb 67 .lss (.t 66) (.t 65)]) (.seq (.cond (.t 67) .skip (.exit 2)) (.seq (.block 3 (.seq (.region [Zo 68 (.iaddrS 8 (.t 64) (.t 66)), Zo 69 (.load (some 8) (.t 68)), Zo 9 (.alloc [(.int .u8 0), (.int .u8 0), (.int .u8 0), (.int .i64 0), (.int .u8 0), (.int .u8 0), (.int .u8 0), (.str [])]), Zn (.store 8 (.t 9) (.t 69))]) (.seq (.region [Zo 71 (.load (some 8) (.t 9)), Zo 72 (.call (.f 43) [(.t 71)]), Zm 70 72, Ze 73 0 70, Ze 74 1 70, Zm 10 73, Zm 11 74]) (.region [Zm 75 5, Zm 76 10, Zo 77 (.litS 1 2 [(.str [])] [(0, (1, (.c (.str [124])))), (1, (1, (.t 76)))]), Zo 78 (.append 1 16 (.t 75) (.t 77)), Zm 5 78])))) (.region [Zb 79 .add (.t 66) (.c (.int .i64 1)), Zm 66 79]))))))) (.seq (.region [Zm 80 5, Zo 81 (.call (.f 44) [(.t 80), (.c (.str [32]))]), Zm 2 81, Zo 3 (.mv (.c (.int .i64 0)))]) .ret))))))))⟩
theorem tbl9 : tbl Tryz.prog 9 = some cf9 := by kernel_rfl
def tokenT : List UInt8 := [116, 111, 107, 101, 110]
def Prt.txt (p : Prt) : List UInt8 := Ef.txtP p.a p.b p.c p.d p.e p.f p.g p.s
def wHead (c : Crd) : List (List UInt8) := [c.name, snm c.suit, wrd c.kind, Ef.dig c.cost]
def wUnit (c : Crd) : List (List UInt8) := Ef.optL (c.kind == 1) ((Ef.dig c.power ++ [47]) ++ Ef.dig c.health)
def wTok (c : Crd) : List (List UInt8) := Ef.optL c.token tokenT
def wTr (l : List Int) : List (List UInt8) := l.map fun t => 43 :: Ef.tN t
def wPs (ps : List Prt) : List (List UInt8) := ps.flatMap fun p => [[124], p.txt]
def wordsC (c : Crd) (ps : List Prt) : List (List UInt8) := (((wHead c ++ wUnit c) ++ wTok c) ++ wTr (lst c.traits 8)) ++ wPs ps
def txtC (c : Crd) (ps : List Prt) : List UInt8 := if chkC c ps = 0 then Lib.join (wordsC c ps) [32] else []
def strs (W : List (List UInt8)) : List AV := W.map AV.str
theorem face_zero {c : Crd} {n : Nat} (h : faceE c n = 0) : Ef.isName c.name = true ∧ snm c.suit ≠ [] ∧ wrd c.kind ≠ [] ∧ (0 ≤ c.cost ∧ c.cost ≤ 10) ∧ (0 ≤ c.power ∧ c.power ≤ 99) ∧ (0 ≤ c.health ∧ c.health ≤ 99) ∧ tcB c.traits = true ∧ n ≤ 4 := by
 unfold faceE faceB at h
 split at h
 · cases h
 rename_i h1
 split at h
 · cases h
 rename_i h2
 split at h
 · cases h
 rename_i h3
 split at h
 · cases h
 split at h
 · cases h
 rename_i h5
 split at h
 · cases h
 rename_i h6
 simp only [Bool.or_eq_true, decide_eq_true_eq, not_or, Bool.not_eq_true', wiB, Bool.and_eq_true, Bool.not_eq_false, Bool.and_eq_false_imp, decide_eq_false_iff_not] at h1 h2 h3 h5 h6
 simp at h1 h2 h3 h5 h6
 refine ⟨h1, h2.1, h2.2, ?_, ?_, ?_, h5.1, by omega⟩ <;> omega
theorem words_len {c : Crd} (hn : Ef.isName c.name = true) (ps : List Prt) : ∀ x ∈ wordsC c ps, x.length ≤ 80 := by
 have h1 : c.name.length ≤ 20 := by
  simp only [Ef.isName, Bool.and_eq_true, decide_eq_true_eq] at hn
  exact hn.1.1.2
 have h2 : (snm c.suit).length ≤ 5 := by unfold snm; split; exact Ef.sN_len5 _; simp
 have h3 : (wrd c.kind).length ≤ 5 := by unfold wrd; (repeat' split) <;> simp
 have h4 := Ef.dig_len c.cost
 have h5 := Ef.dig_len c.power
 have h6 := Ef.dig_len c.health
 intro x hx
 simp only [wordsC, List.mem_append] at hx
 rcases hx with (((hx | hx) | hx) | hx) | hx
 · simp only [wHead, List.mem_cons, List.mem_nil_iff, or_false] at hx
   rcases hx with rfl | rfl | rfl | rfl <;> omega
 · unfold wUnit Ef.optL at hx
   split at hx
   · simp only [List.mem_cons, List.mem_nil_iff, or_false] at hx
     subst hx
     simp; omega
   · simp at hx
 · unfold wTok Ef.optL at hx
   split at hx
   · simp only [List.mem_cons, List.mem_nil_iff, or_false] at hx
     subst hx
     decide
   · simp at hx
 · simp only [wTr, List.mem_map] at hx
   obtain ⟨t, _, rfl⟩ := hx
   have := Ef.tN_len5 t
   simp; omega
 · simp only [wPs, List.mem_flatMap] at hx
   obtain ⟨p, _, hp⟩ := hx
   simp only [List.mem_cons, List.mem_nil_iff, or_false] at hp
   rcases hp with rfl | rfl
   · decide
   · exact Ef.txtP_len80 _ _ _ _ _ _ _ _
structure CpI (h0 hh : AH) (c : Crd) (v : AV) (N : Nat) (W : List (List UInt8)) (tm : List AV) (H : AH) : Prop where
 len : tm.length = 82
 t1 : tm.getD 1 AV.undef = .ptr (some (N, 0))
 row : RowC N H (tm.getD 5 AV.undef) (strs W)
 box : H.get N = some (.cells (c.cells v) false)
 old : ∀ b, b < N → H.get b = hh.get b
 gr : Grown h0 H
 low : N ≤ H.low
 n : N < H.n
structure TrI (h0 hh : AH) (c : Crd) (v : AV) (N : Nat) (W : List (List UInt8)) (Ls : List Int) (al : Option (Nat × Nat)) (cl : Cap) (n : Nat) (tm : List AV) (H : AH) : Prop where
 len : tm.length = 82
 t1 : tm.getD 1 AV.undef = .ptr (some (N, 0))
 t50 : tm.getD 50 AV.undef = .slice al Ls.length cl
 t51 : tm.getD 51 AV.undef = .int .i64 (Ls.length : Int)
 st : ∃ (i : Nat) (v5 : AV), n = Ls.length - i ∧ i ≤ Ls.length ∧ tm.getD 52 AV.undef = .int .i64 (i : Int) ∧ tm.getD 5 AV.undef = v5 ∧ RowC N H v5 (strs (W ++ wTr (Ls.take i))) ∧
  ∀ (j : Nat) t, Ls[j]? = some t → ∃ b, al = some (b, 0) ∧ H.get b = some (.cells (ints Ls) false) ∧ b < H.n ∧ ∀ n c, v5 ≠ .slice (some (b, 0)) n c
 box : H.get N = some (.cells (c.cells v) false)
 old : ∀ b, b < N → H.get b = hh.get b
 gr : Grown h0 H
 low : N ≤ H.low
 n : N < H.n
structure PpI (h0 hh : AH) (N : Nat) (W : List (List UInt8)) (ps : List Prt) (v : AV) (n : Nat) (tm : List AV) (H : AH) : Prop where
 len : tm.length = 82
 t64 : tm.getD 64 AV.undef = v
 t65 : tm.getD 65 AV.undef = .int .i64 (ps.length : Int)
 st : ∃ (i : Nat) (v5 : AV), n = ps.length - i ∧ i ≤ ps.length ∧ tm.getD 66 AV.undef = .int .i64 (i : Int) ∧ tm.getD 5 AV.undef = v5 ∧ RowC N H v5 (strs (W ++ wPs (ps.take i)))
 old : ∀ b, b < N → H.get b = hh.get b
 gr : Grown h0 H
 low : N ≤ H.low
 n : N < H.n
theorem over_two0 (a b x : AV) : Fs.over [a, b] 0 [x] = [x, b] := rfl
theorem over_two1 (a b x : AV) : Fs.over [a, b] 1 [x] = [a, x] := rfl
theorem wPs_len (ps : List Prt) : (wPs ps).length = 2 * ps.length := by
 induction ps with
 | nil => rfl
 | cons p r ih => simp only [wPs, List.flatMap_cons, List.length_append, List.length_cons, List.length_nil] at ih ⊢; omega
theorem join_len {B : Nat} : ∀ (W : List (List UInt8)), (∀ x ∈ W, x.length ≤ B) → (Lib.join W [32]).length ≤ W.length * (B + 1)
 | [], _ => by simp [Lib.join_nil]
 | [x], h => by
   rw [Lib.join_one]
   have := h x (by simp)
   simp only [List.length_cons, List.length_nil]; omega
 | x :: y :: r, h => by
   rw [Plain.join_two, List.length_append, List.length_cons]
   have h1 := h x (by simp)
   have h2 := join_len (y :: r) fun z hz => h z (by simp [hz])
   simp only [List.length_cons] at h2 ⊢
   rw [show (r.length + 1 + 1) * (B + 1) = (r.length + 1) * (B + 1) + (B + 1) by rw [Nat.add_mul (r.length + 1) 1]; omega]
   omega
theorem cells_at2 (c : Crd) (v : AV) : (c.cells v)[0]? = some (.str c.name) ∧ (c.cells v)[1]? = some (.int .u8 c.suit) ∧ (c.cells v)[3]? = some (.int .i64 c.cost) ∧ (c.cells v)[4]? = some (.int .i64 c.power) ∧ (c.cells v)[5]? = some (.int .i64 c.health) ∧ (c.cells v)[6]? = some (.int .u16 c.traits) ∧ (c.cells v)[7]? = some (.bool c.token) := ⟨rfl, rfl, rfl, rfl, rfl, rfl, rfl⟩
theorem cprint_spec (ho : ∀ f, f ∈ [9, 8, 36, 86, 87, 38, 39, 88, 41, 99, 136, 100, 43, 101, 37, 89, 90, 91, 92, 93, 94, 95, 96, 97, 132, 133, 134] → orc f = none) (hw : orc 38 = none) (ht : Ef.Trims orc) {h0 : AH} (hF : Ef.Flds orc h0) (hJ : Ef.Joins orc) (hT : Ef.Told orc h0) (c : Crd) (v : AV) (ps : List Prt) {h : AH} (hp : Parts h v ps) (hg : Grown h0 h) :
    acall orc T 9 [.agg (c.cells v)] h = some (.tuple [.str (txtC c ps), .int .i64 (chkC c ps)], h) := by
 have sub : ∀ l : List Nat, (∀ f ∈ l, f ∈ [9, 8, 36, 86, 87, 38, 39, 88, 41, 99, 136, 100, 43, 101, 37, 89, 90, 91, 92, 93, 94, 95, 96, 97, 132, 133, 134]) → ∀ f, f ∈ l → orc f = none := fun l hl f hf => ho f (hl f hf)
 have hp0 := hp
 obtain ⟨a, cap, rfl, hbig, _⟩ := hp
 have bx : ∀ (hh : AH), boxV (.agg (c.cells (.slice a ps.length cap))) hh = some (.ptr (some (hh.n, 0)), hh.push (.cells (c.cells (.slice a ps.length cap)) false)) := fun hh => boxV_agg _ rfl
 obtain ⟨x2, x8, xl, xt⟩ := cells_at c (.slice a ps.length cap)
 obtain ⟨x0, x1, x3, x4, x5, x6, x7⟩ := cells_at2 c (.slice a ps.length cap)
 have hpN : Parts ((h.withLow h.n).push (.cells (c.cells (.slice a ps.length cap)) false)) (.slice a ps.length cap) ps := hp0.mono (by simp) fun b hb => by rw [Hp.get_push_ne _ _ _ (by simp; omega)]; rfl
 have cC := check_spec (orc := orc) (sub _ (by decide)) ht c (.slice a ps.length cap) ps _ hpN
 have cS := sname_spec (orc := orc) (ho _ (by simp)) c.suit
 have cW := word_spec (orc := orc) (ho _ (by simp)) c.kind
 refine acall_sym (ho _ (by simp)) tbl9 ?_
 refine GD ?_
 by_cases hC : chkC c ps = 0
 case neg =>
  have e1 : (chkC c ps != 0) = true := by simpa using hC
  have e2 : txtC c ps = [] := by unfold txtC; rw [if_neg hC]
  rw [e2]
  (have fct := Fj @cC (Fj @bx (Fj @xl (Fj @xt @e1))); refine GO ?_; clear fct)
  (have fct := trivial; refine A_end ?_; clear fct; try exact trivial)
 case pos =>
 have hfz : faceE c ps.length = 0 := by
  unfold chkC at hC
  split at hC
  · assumption
  · exact hC
 obtain ⟨fz1, fz2, fz3, fz4, fz5, fz6, fz7, fz8⟩ := face_zero hfz
 have e1 : ((0 : Int) != 0) = false := rfl
 have e2 : txtC c ps = Lib.join (wordsC c ps) [32] := by unfold txtC; rw [if_pos hC]
 rw [e2, hC]
 rw [hC] at cC
 have iC := fun (hh : AH) (g : Grown h0 hh) => hT.itoa c.cost hh g (by omega) (by omega)
 have iP := fun (hh : AH) (g : Grown h0 hh) => hT.itoa c.power hh g (by omega) (by omega)
 have iH := fun (hh : AH) (g : Grown h0 hh) => hT.itoa c.health hh g (by omega) (by omega)
 (have fct := Fj @cC (Fj @bx (Fj @xl (Fj @xt (Fj @e1 (Fj @x0 (Fj @x1 (Fj @x2 (Fj @x3 (Fj @cS (Fj @cW (Fj @iC (Fj @hg (Fj @Grown.low (Fj @Grown.push (Fj @op_litS (Fj fsReps @Fs.over.eq_1)))))))))))))))); refine GOD ?_; clear fct)
 have gH : Grown h0 ((h.withLow h.n).push (.cells (c.cells (.slice a ps.length cap)) false)) := (hg.low _).push _
 have lenN : ∀ x y : List UInt8, x.length ≤ 100 → y.length ≤ 100 → (x.length + y.length ≤ 9223372036854775807) = True := fun x y h1 h2 => by simp; omega
 have row0 : RowC h.n (((h.withLow h.n).push (.cells (c.cells (.slice a ps.length cap)) false)).push (.cells (strs (wHead c)) false)) (.slice (some (h.n + 1, 0)) (strs (wHead c)).length (.exact (strs (wHead c)).length)) (strs (wHead c)) :=
  ⟨h.n + 1, _, by omega, by simp, .inr rfl, rfl, Hp.get_push_self _ _, by simp [strs, wHead]⟩
 have es : strs (wHead c) = [.str c.name, .str (snm c.suit), .str (wrd c.kind), .str (Ef.dig c.cost)] := rfl
 refine Ef.CondK_mid (CpI h0 h c (.slice a ps.length cap) h.n (wHead c ++ wUnit c)) (fun hb => ?_) (fun hb => ?_) (fun tm1 H1 I1 => ?_)
 · obtain ⟨A, hA⟩ : ∃ A, Ef.dig c.power = A := ⟨_, rfl⟩
   obtain ⟨B, hB⟩ : ∃ B, Ef.dig c.health = B := ⟨_, rfl⟩
   have la : A.length ≤ 3 := by rw [← hA]; exact Ef.dig_len _
   have lb : B.length ≤ 3 := by rw [← hB]; exact Ef.dig_len _
   have l1 : (A.length ≤ 9223372036854775806) = True := by simp; omega
   have l2 : ((A ++ [47]).length + B.length ≤ 9223372036854775807) = True := by simp; omega
   have eU : wUnit c = [(A ++ [47]) ++ B] := by unfold wUnit Ef.optL; rw [hb, hA, hB]; rfl
   rw [hA] at iP
   rw [hB] at iH
   (have fct := Fj @xl (Fj @xt (Fj @x4 (Fj @x5 (Fj @iP (Fj @iH (Fj @hg (Fj @Grown.low (Fj @Grown.push (Fj @l1 (Fj @l2 (Fj @op_litS (Fj fsReps (Fj @Fs.over.eq_1 fsAstr))))))))))))); refine GOD ?_; clear fct)
   refine D_ex rfl rfl (by simp (maxDischargeDepth := 12) only [opsB, Nat.reduceEqDiff, Nat.reduceBEq, Nat.reduceBNe, Int.reduceBEq, Int.reduceBNe, Int.reduceLT, Int.reduceLE, Int.reduceEq, AV.one, AV.cells, CA.ev, abin, aint, aun, isShift, readVar, readCell, readCells, writeCells, fillA, reduceIte, Nat.reduceAdd, Nat.reduceSub, Nat.reduceLT, Nat.reduceLeDiff, resAll, resOne, AV.under, AV.unders, cut, op_append, es]; (first | done | with_reducible rfl)) (app_cells (by' := 16) (xs := [.str ((A ++ [47]) ++ B)]) (.inr (row0.push (.cells [.str ((A ++ [47]) ++ B)] false))) (by simp; omega) (by simp [strs, wHead]) (by simp [strs, wHead]) (by simp) rfl (Hp.get_push_self _ _)) fun v' H' hh => ?_
   obtain ⟨row, hn', hf', lo', ev', _⟩ := hh
   refine A_dtm ?_
   simp only [Hp.n_push, Hp.low_push, Hp.n_withLow, Hp.low_withLow] at hn' lo'
   (have fct := Fj @xl (Fj @xt (Fj @x4 @x5)); refine GOD ?_; clear fct)
   refine ⟨rfl, rfl, ?_, ?_, fun b hb' => ?_, ?_, lo' (Nat.le_refl _), by omega⟩
   · rw [eU, show strs (wHead c ++ [(A ++ [47]) ++ B]) = strs (wHead c) ++ [.str ((A ++ [47]) ++ B)] by simp [strs]]
     exact row
   · rw [hf' h.n (Nat.le_refl _), Hp.get_push_ne _ _ _ (by simp; omega), Hp.get_push_ne _ _ _ (by simp)]; exact Hp.get_push_self _ _
   · rw [hf' b (by omega), Hp.get_push_ne _ _ _ (by simp; omega), Hp.get_push_ne _ _ _ (by simp; omega), Hp.get_push_ne _ _ _ (by simp; omega)]; rfl
   · refine ⟨by have := hg.1; omega, fun b hb' => ?_⟩
     have := hg.1
     rw [hf' b (by omega), Hp.get_push_ne _ _ _ (by simp; omega), Hp.get_push_ne _ _ _ (by simp; omega), Hp.get_push_ne _ _ _ (by simp; omega)]
     exact hg.2 b hb'
 · have eU : wUnit c = [] := by unfold wUnit Ef.optL; rw [hb]; rfl
   (have fct := Fj @xl @xt; refine GO ?_; clear fct)
   refine ⟨rfl, rfl, ?_, ?_, fun b hb' => ?_, (hg.low _).push _ |>.push _, by simp, by simp; omega⟩
   · rw [eU, List.append_nil]; exact row0
   · rw [Hp.get_push_ne _ _ _ (by simp)]; exact Hp.get_push_self _ _
   · rw [Hp.get_push_ne _ _ _ (by simp; omega), Hp.get_push_ne _ _ _ (by simp; omega)]; rfl
 clear row0 es iP iH iC cC cS cW gH hpN
 obtain ⟨v5, e5⟩ : ∃ v5, tm1.getD 5 AV.undef = v5 := ⟨_, rfl⟩
 have el := I1.len
 have et := I1.t1
 have box := I1.box
 (have fct := Fj @el (Fj @et (Fj @e5 (Fj @box (Fj @xl (Fj @xt @x7))))); refine GO ?_; clear fct)
 refine Ef.CondK_mid (CpI h0 h c (.slice a ps.length cap) h.n ((wHead c ++ wUnit c) ++ wTok c)) (fun hb => ?_) (fun hb => ?_) (fun tm2 H2 I2 => ?_)
 · have eT : wTok c = [tokenT] := by unfold wTok Ef.optL; rw [hb]; rfl
   have row1 := I1.row
   rw [e5] at row1
   have hn1 := I1.n
   (have fct := Fj @el (Fj @et (Fj @e5 (Fj @op_litS (Fj fsReps @Fs.over.eq_1)))); refine GO ?_; clear fct)
   refine R_ex (by simp (maxDischargeDepth := 12) only [opsB, Nat.reduceEqDiff, Nat.reduceBEq, Nat.reduceBNe, Int.reduceBEq, Int.reduceBNe, Int.reduceLT, Int.reduceLE, Int.reduceEq, AV.one, AV.cells, CA.ev, abin, aint, aun, isShift, readVar, readCell, readCells, writeCells, fillA, reduceIte, Nat.reduceAdd, Nat.reduceSub, Nat.reduceLT, Nat.reduceLeDiff, resAll, resOne, AV.under, AV.unders, cut, op_append, el, et, e5, tokenT, fsTm, Nat.reduceBEq, Nat.reduceLT]; (first | done | with_reducible rfl)) (app_cells (by' := 16) (xs := [.str tokenT]) (.inr (row1.push (.cells [.str tokenT] false))) (by simp; omega) (by simp [strs, wHead, wUnit, Ef.optL]; split <;> simp) (by simp [strs, wHead, wUnit, Ef.optL]; split <;> simp) (by simp) rfl (Hp.get_push_self _ _)) fun v' H' hh => ?_
   obtain ⟨row, hn', hf', lo', ev', _⟩ := hh
   refine A_tm ?_
   simp only [Hp.n_push, Hp.low_push] at hn' lo'
   (have fct := Fj @el (Fj @et @e5); refine GO ?_; clear fct)
   have g0 := hg.1
   refine ⟨by simp only [List.length_set, el], by simp only [fsTm, Nat.reduceBEq, Nat.reduceLT, el, et], ?_, ?_, fun b hb' => ?_, ⟨by omega, fun b hb' => ?_⟩, lo' I1.low, by omega⟩
   · rw [eT, show strs (wHead c ++ wUnit c ++ [tokenT]) = strs (wHead c ++ wUnit c) ++ [.str tokenT] by simp [strs]]
     simp only [fsTm, Nat.reduceBEq, Nat.reduceLT, el]
     exact row
   · rw [hf' h.n (Nat.le_refl _), Hp.get_push_ne _ _ _ (by omega)]; exact box
   · rw [hf' b (by omega), Hp.get_push_ne _ _ _ (by omega)]; exact I1.old b hb'
   · rw [hf' b (by omega), Hp.get_push_ne _ _ _ (by omega)]; exact I1.gr.2 b hb'
 · have eT : wTok c = [] := by unfold wTok Ef.optL; rw [hb]; rfl
   (have fct := Fj @el (Fj @et @e5); refine GO ?_; clear fct)
   refine ⟨by simp only [List.length_set, el], by simp only [fsTm, Nat.reduceBEq, Nat.reduceLT, el, et], ?_, box, I1.old, I1.gr, I1.low, I1.n⟩
   rw [eT, List.append_nil]
   simp only [fsTm, Nat.reduceBEq, Nat.reduceLT, el]
   exact I1.row
 clear box et el e5
 have el := I2.len
 have et := I2.t1
 have box := I2.box
 have hn2 := I2.n
 obtain ⟨v6, e5⟩ : ∃ v6, tm2.getD 5 AV.undef = v6 := ⟨_, rfl⟩
 have row2 := I2.row
 rw [e5] at row2
 (have fct := Fj @el (Fj @et (Fj @e5 (Fj @box (Fj @xl (Fj @xt @x6))))); refine GO ?_; clear fct)
 refine R_ex (by simp (maxDischargeDepth := 12) only [opsB, Nat.reduceEqDiff, Nat.reduceBEq, Nat.reduceBNe, Int.reduceBEq, Int.reduceBNe, Int.reduceLT, Int.reduceLE, Int.reduceEq, AV.one, AV.cells, CA.ev, abin, aint, aun, isShift, readVar, readCell, readCells, writeCells, fillA, reduceIte, Nat.reduceAdd, Nat.reduceSub, Nat.reduceLT, Nat.reduceLeDiff, resAll, resOne, AV.under, AV.unders, cut, el, et, e5, fsTm, Nat.reduceBEq, Nat.reduceLT]; (first | done | with_reducible rfl)) (tlist_spec h.n (sub _ (by decide)) c.traits (h := H2) hn2) fun v7 H3 hh => ?_
 obtain ⟨hv7, kp⟩ := hh
 refine A_tm ?_
 have row3 := row2.kp kp
 have sep0 : ∀ b, H2.n ≤ b → ∀ n c, v6 ≠ .slice (some (b, 0)) n c := by
  obtain ⟨b', cap', _, k2, _, k4, _, _⟩ := row2
  intro b hb n c e
  rw [k4] at e
  cases e
  omega
 obtain ⟨al, cl, rfl, hal⟩ : ∃ al cl, v7 = .slice al (lst c.traits 8).length cl ∧ ∀ (i : Nat) t, (lst c.traits 8)[i]? = some t → ∃ b, al = some (b, 0) ∧ H3.get b = some (.cells (ints (lst c.traits 8)) false) ∧ b < H3.n ∧ H2.n ≤ b := by
  rcases hv7 with ⟨rfl, hz⟩ | ⟨b, cap', rfl, k2, k3, k4⟩
  · exact ⟨none, .exact 0, by rw [hz]; rfl, fun i t hi => by rw [hz] at hi; simp at hi⟩
  · exact ⟨_, _, rfl, fun i t hi => ⟨b, rfl, k2, k4, k3⟩⟩
 have g3 : Grown h0 H3 := Ef.Grown.kp I2.gr kp
 have lo3 := kp.low (Nat.le_of_lt hn2) I2.low
 have box3 : H3.get h.n = some (.cells (c.cells (.slice a ps.length cap)) false) := by rw [kp.get h.n hn2]; exact box
 have old3 : ∀ b, b < h.n → H3.get b = h.get b := fun b hb => by rw [kp.get b (by omega)]; exact I2.old b hb
 have hn3 := kp.n
 clear hv7 kp I2 row2 box
 generalize hLs : lst c.traits 8 = Ls at *
 have hLr : ∀ t ∈ Ls, 1 ≤ t ∧ t ≤ 8 := fun t ht => by rw [← hLs] at ht; have := lst_range ht; omega
 have hLl : Ls.length ≤ 8 := by rw [← hLs]; exact lst_len _ _
 have hWl : (strs ((wHead c ++ wUnit c) ++ wTok c)).length ≤ 6 := by simp [strs, wHead, wUnit, wTok, Ef.optL]; split <;> split <;> simp
 generalize hW2 : (wHead c ++ wUnit c) ++ wTok c = W2 at *
 (have fct := Fj @el (Fj @et @e5); refine GO ?_; clear fct)
 refine CodeK_loop (TrI h0 h c (.slice a ps.length cap) h.n W2 Ls al cl) Ls.length ?_ ?_
 · refine ⟨by simp only [List.length_set, el], by simp only [fsTm, Nat.reduceBEq, Nat.reduceLT, el, et], by simp only [fsTm, Nat.reduceBEq, Nat.reduceLT, el], by simp only [fsTm, Nat.reduceBEq, Nat.reduceLT, el], ⟨0, v6, rfl, by omega, by simp only [fsTm, Nat.reduceBEq, Nat.reduceLT, el]; rfl, by simp only [fsTm, Nat.reduceBEq, Nat.reduceLT, el, e5], by simpa [wTr] using row3, fun j t hj => ?_⟩, box3, old3, g3, lo3, by omega⟩
   obtain ⟨b, k1, k2, k3, k4⟩ := hal j t hj
   exact ⟨b, k1, k2, k3, sep0 b k4⟩
 clear row3 hal sep0 g3 lo3 box3 old3 e5 et el hn2 hn3
 intro n tm3 H I
 obtain ⟨i, v5', hn, hi, e52, e5, row, hL⟩ := I.st
 have el := I.len
 have et := I.t1
 have e50 := I.t50
 have e51 := I.t51
 have box := I.box
 have hN := I.n
 have g0 := hg.1
 by_cases hlt : i < Ls.length
 case pos =>
  have l1 : decide ((i : Int) < (Ls.length : Int)) = true := by rw [decide_eq_true_eq]; omega
  obtain ⟨t, hti⟩ : ∃ t, Ls[i]? = some t := ⟨_, List.getElem?_eq_getElem hlt⟩
  obtain ⟨b, rfl, k2, k3, k4⟩ := hL i t hti
  have ⟨t1', t8'⟩ := hLr t (List.mem_of_getElem? hti)
  have a1 := fun (hh : AH) => iaddrV_nat (h := hh) (esz := 1) (b := b) (o := 0) (c := cl) (k := .i64) hlt
  have hm : (ints Ls)[i]? = some (.int .u8 t) := by unfold ints; rw [List.getElem?_map, hti]; rfl
  have w1 : IntKind.wrap .i64 ((i : Int) + 1) = ((i + 1 : Nat) : Int) := by rw [wrap_i64 (by omega) (by omega)]; omega
  have cN := hT.trait t H I.gr t1' t8'
  have ln := Ef.tN_len5 t
  have l2 : (1 + (Ef.tN t).length ≤ 9223372036854775807) = True := by simp; omega
  have l3 : ((Ef.tN t).length ≤ 9223372036854775806) = True := by simp; omega
  (have fct := Fj @el (Fj @et (Fj @e50 (Fj @e51 (Fj @e52 (Fj @e5 (Fj @l1 (Fj @a1 (Fj @k2 (Fj @hm (Fj @cN (Fj @l2 (Fj @l3 (Fj fsAstr (Fj @Nat.mul_one (Fj @op_litS (Fj fsReps @Fs.over.eq_1)))))))))))))))); refine GO ?_; clear fct)
  refine R_ex (by simp (maxDischargeDepth := 12) only [opsB, Nat.reduceEqDiff, Nat.reduceBEq, Nat.reduceBNe, Int.reduceBEq, Int.reduceBNe, Int.reduceLT, Int.reduceLE, Int.reduceEq, AV.one, AV.cells, CA.ev, abin, aint, aun, isShift, readVar, readCell, readCells, writeCells, fillA, reduceIte, Nat.reduceAdd, Nat.reduceSub, Nat.reduceLT, Nat.reduceLeDiff, resAll, resOne, AV.under, AV.unders, cut, op_append, el, et, e5, fsTm, Nat.reduceBEq, Nat.reduceLT]; (first | done | with_reducible rfl)) (app_cells (by' := 16) (xs := [.str (43 :: Ef.tN t)]) (.inr (row.push (.cells [.str (43 :: Ef.tN t)] false))) (by simp; omega) (by simp [strs, wTr] at hWl ⊢; omega) (by simp [strs, wTr] at hWl ⊢; omega) (by simp) rfl (Hp.get_push_self _ _)) fun v' H' hh => ?_
  obtain ⟨row', hn', hf', lo', ev', hfs⟩ := hh
  refine A_tm ?_
  simp only [Hp.n_push, Hp.low_push] at hn' lo' ev' hfs
  (have fct := Fj @el (Fj @et (Fj @e50 (Fj @e51 (Fj @e52 (Fj @e5 @w1))))); refine GO ?_; clear fct)
  refine ⟨Ls.length - (i + 1), by omega, by simp only [List.length_set, el], by simp only [fsTm, Nat.reduceBEq, Nat.reduceLT, el, et], by simp only [fsTm, Nat.reduceBEq, Nat.reduceLT, el, e50], by simp only [fsTm, Nat.reduceBEq, Nat.reduceLT, el, e51], ⟨i + 1, v', rfl, by omega, by simp only [fsTm, Nat.reduceBEq, Nat.reduceLT, el], by simp only [fsTm, Nat.reduceBEq, Nat.reduceLT, el], ?_, fun j t' hj => ⟨b, rfl, ?_, by omega, ?_⟩⟩, ?_, fun b' hb' => ?_, ⟨by omega, fun b' hb' => ?_⟩, lo' I.low, by omega⟩
  · rw [show strs (W2 ++ wTr (Ls.take (i + 1))) = strs (W2 ++ wTr (Ls.take i)) ++ [.str (43 :: Ef.tN t)] by rw [List.take_add_one, hti]; simp [strs, wTr]]
    exact row'
  · rw [hfs b (by omega) k4, Hp.get_push_ne _ _ _ (by omega)]; exact k2
  · intro n' c' e
    rw [ev'] at e
    cases e
    omega
  · rw [hf' h.n (Nat.le_refl _), Hp.get_push_ne _ _ _ (by omega)]; exact box
  · rw [hf' b' (by omega), Hp.get_push_ne _ _ _ (by omega)]; exact I.old b' hb'
  · rw [hf' b' (by omega), Hp.get_push_ne _ _ _ (by omega)]; exact I.gr.2 b' hb'
 case neg =>
 obtain rfl : i = Ls.length := by omega
 have l1 : decide ((Ls.length : Int) < (Ls.length : Int)) = false := by rw [decide_eq_false_iff_not]; omega
 rw [List.take_length] at row
 have old := I.old
 have gr := I.gr
 have low := I.low
 clear I hL
 generalize hW3 : W2 ++ wTr Ls = W3 at *
 (have fct := Fj @el (Fj @et (Fj @e50 (Fj @e51 (Fj @e52 (Fj @e5 (Fj @l1 (Fj @box (Fj @xl (Fj @xt @x8))))))))); refine GO ?_; clear fct)
 have hW3l : (strs W3).length ≤ 14 := by rw [← hW3]; simp [strs, wTr] at hWl ⊢; omega
 refine CodeK_loop (PpI h0 h h.n W3 ps (.slice a ps.length cap)) ps.length ?_ ?_
 · exact ⟨by simp only [List.length_set, el], by simp only [fsTm, Nat.reduceBEq, Nat.reduceLT, el], by simp only [fsTm, Nat.reduceBEq, Nat.reduceLT, el], ⟨0, v5', rfl, by omega, by simp only [fsTm, Nat.reduceBEq, Nat.reduceLT, el]; rfl, by simp only [fsTm, Nat.reduceBEq, Nat.reduceLT, el, e5], by simpa [wPs] using row⟩, old, gr, low, hN⟩
 clear row old gr low hN box e5 e50 e51 e52 et el l1
 intro n tm4 H I
 obtain ⟨i, v5, hn, hi, e66, e5, row⟩ := I.st
 have el := I.len
 have e64 := I.t64
 have e65 := I.t65
 have hN := I.n
 by_cases hlt : i < ps.length
 case pos =>
  have l1 : decide ((i : Int) < (ps.length : Int)) = true := by rw [decide_eq_true_eq]; omega
  obtain ⟨p, hpi⟩ : ∃ p, ps[i]? = some p := ⟨_, List.getElem?_eq_getElem hlt⟩
  obtain ⟨b, o, cells, ro, c', ev, hb, hgb, hc⟩ := parts_get hp0 hpi
  cases ev
  have hg' : H.get b = some (.cells cells ro) := by rw [I.old b hb]; exact hgb
  have a1 := fun (hh : AH) => iaddrV_nat (h := hh) (esz := 8) (b := b) (o := o) (c := cap) (k := .i64) hlt
  have w1 : IntKind.wrap .i64 ((i : Int) + 1) = ((i + 1 : Nat) : Int) := by rw [wrap_i64 (by omega) (by omega)]; omega
  have z1 : ∀ a b c d e f g i : AV, Fs.over [a, b, c, d, e, f, g, i] 0 p.cells = p.cells := fun _ _ _ _ _ _ _ _ => rfl
  have z2 : p.cells.length = 8 := rfl
  have z3 : p.cells.all AV.one = true := rfl
  have z4 : p.cells.take 8 = p.cells := rfl
  have y2 : (b = H.n) = False := by simp; omega
  have hc1 : (o + (i * 8 + 8) ≤ cells.length) = True := by have := (cut_parts hc).1; simp; omega
  have hc2 := (cut_parts hc).2
  have gE : Grown h0 ((H.push (.cells [.int .u8 0, .int .u8 0, .int .u8 0, .int .i64 0, .int .u8 0, .int .u8 0, .int .u8 0, .str []] false)).set H.n (.cells p.cells false)) := (I.gr.push _).set (by have := I.gr.1; omega) _
  have cE : acall orc T 43 [.agg p.cells] _ = some (.tuple [.str p.txt, .int .i64 p.chk], _) := Ef.print_spec (orc := orc) (sub _ (by decide)) ht hF hJ hT p.a p.b p.c p.d p.e p.f p.g p.s gE
  (have fct := Fj @el (Fj @e64 (Fj @e65 (Fj @e66 (Fj @e5 (Fj @l1 (Fj @a1 (Fj @hg' (Fj @hc1 (Fj @hc2 (Fj @z1 (Fj @z2 (Fj @z3 (Fj @z4 (Fj @y2 (Fj @cE (Fj @op_litS (Fj fsReps (Fj @over_two0 @over_two1)))))))))))))))))); refine GO ?_; clear fct)
  have hps4 : ps.length ≤ 4 := fz8
  have hpl := wPs_len (ps.take i)
  have hB : ((H.push (.cells [.int .u8 0, .int .u8 0, .int .u8 0, .int .i64 0, .int .u8 0, .int .u8 0, .int .u8 0, .str []] false)).set H.n (.cells p.cells false)).n = H.n + 1 := rfl
  have row1 : RowC h.n (((H.push (.cells [.int .u8 0, .int .u8 0, .int .u8 0, .int .i64 0, .int .u8 0, .int .u8 0, .int .u8 0, .str []] false)).set H.n (.cells p.cells false)).push (.cells [.str [124], .str p.txt] false)) v5 (strs (W3 ++ wPs (ps.take i))) := by
   obtain ⟨b', cap', r1, r2, r3, r4, r5, r6⟩ := row
   exact ⟨b', cap', r1, by simp; omega, r3, r4, by rw [Hp.get_push_ne _ _ _ (by simp; omega), Hp.get_set_ne _ _ _ _ (by omega), Hp.get_push_ne _ _ _ (by omega), r5], r6⟩
  refine R_ex (by simp (maxDischargeDepth := 12) only [opsB, Nat.reduceEqDiff, Nat.reduceBEq, Nat.reduceBNe, Int.reduceBEq, Int.reduceBNe, Int.reduceLT, Int.reduceLE, Int.reduceEq, AV.one, AV.cells, CA.ev, abin, aint, aun, isShift, readVar, readCell, readCells, writeCells, fillA, reduceIte, Nat.reduceAdd, Nat.reduceSub, Nat.reduceLT, Nat.reduceLeDiff, resAll, resOne, AV.under, AV.unders, cut, op_append, el, e64, e65, e66, e5, fsTm, Nat.reduceBEq, Nat.reduceLT]; (first | done | with_reducible rfl)) (app_cells (by' := 16) (xs := [.str [124], .str p.txt]) (.inr row1) (by simp; omega) (by simp [strs, List.length_take] at hW3l hpl ⊢; omega) (by simp [strs, List.length_take] at hW3l hpl ⊢; omega) (by simp) rfl (Hp.get_push_self _ _)) fun v' H' hh => ?_
  obtain ⟨row', hn', hf', lo', ev', hfs⟩ := hh
  refine A_tm ?_
  simp only [Hp.n_push, Hp.n_set, Hp.low_push, Hp.low_set] at hn' lo'
  (have fct := Fj @el (Fj @e64 (Fj @e65 (Fj @e66 (Fj @e5 @w1)))); refine GO ?_; clear fct)
  refine ⟨ps.length - (i + 1), by omega, by simp only [List.length_set, el], by simp only [fsTm, Nat.reduceBEq, Nat.reduceLT, el, e64], by simp only [fsTm, Nat.reduceBEq, Nat.reduceLT, el, e65], ⟨i + 1, v', rfl, by omega, by simp only [fsTm, Nat.reduceBEq, Nat.reduceLT, el], by simp only [fsTm, Nat.reduceBEq, Nat.reduceLT, el], ?_⟩, fun b' hb' => ?_, ⟨by have := I.gr.1; omega, fun b' hb' => ?_⟩, lo' (by have := I.low; omega), by omega⟩
  · rw [show strs (W3 ++ wPs (ps.take (i + 1))) = strs (W3 ++ wPs (ps.take i)) ++ [.str [124], .str p.txt] by rw [List.take_add_one, hpi]; simp [strs, wPs]]
    exact row'
  · rw [hf' b' (by omega), Hp.get_push_ne _ _ _ (by simp; omega), Hp.get_set_ne _ _ _ _ (by omega), Hp.get_push_ne _ _ _ (by omega)]; exact I.old b' hb'
  · have := hg.1
    rw [hf' b' (by omega), Hp.get_push_ne _ _ _ (by simp; omega), Hp.get_set_ne _ _ _ _ (by omega), Hp.get_push_ne _ _ _ (by omega)]; exact I.gr.2 b' hb'
 case neg =>
 obtain rfl : i = ps.length := by omega
 have l1 : decide ((ps.length : Int) < (ps.length : Int)) = false := by rw [decide_eq_false_iff_not]; omega
 rw [List.take_length] at row
 have eW : W3 ++ wPs ps = wordsC c ps := by rw [← hW3, ← hW2, ← hLs]; rfl
 rw [eW] at row
 obtain ⟨b, cap', r1, r2, r3, rfl, r5, r6⟩ := row
 have hlow := I.low
 have hlenW : (wordsC c ps).length ≤ 22 := by rw [← eW]; have := wPs_len ps; simp [strs] at hW3l ⊢; omega
 have hne : wordsC c ps ≠ [] := by intro e; rw [e] at r6; exact r6 rfl
 have hword : ∀ x ∈ wordsC c ps, x.length ≤ 80 := words_len fz1 ps
 have hj := hJ (wordsC c ps) b cap' false H r5 hne (by simpa [strs] using r3) (by omega) (by have := join_len _ hword; have : (wordsC c ps).length * 81 ≤ 22 * 81 := Nat.mul_le_mul_right _ hlenW; omega)
 have eS : (strs (wordsC c ps)).length = (wordsC c ps).length := by simp [strs]
 rw [eS] at e5
 (have fct := Fj @el (Fj @e64 (Fj @e65 (Fj @e66 (Fj @e5 (Fj @l1 @hj))))); refine GO ?_; clear fct)
 (have fct := @el; refine A_end ?_; clear fct; try exact trivial)
 omega
end Go.Proofs.Cards
