/- (*gambitref07.Book).Card: a card put into the reference's list. -/
import Derived.Test.YtlppecefalblmaaGreatDoorFz05
import Derived.Test.YtlppecefalblmaaGreatDoorZtBkRef
namespace Go.Proofs.Cards
set_option maxRecDepth 100000
set_option maxHeartbeats 32000000
open Go Go.Fs
set_option linter.unusedSimpArgs false
set_option linter.unusedVariables false
variable {orc : Orc}
def cf63 : CF := ⟨79, [(.tmp 4)], (.seq (.region [Zo 3 (.box (.t 1)), Zo 4 (.mv (.c (.int .i64 0)))]) (.seq (.seq (.region [Zm 9 0, Zo 10 (.call (.f 120) [(.t 9)])]) (.cond (.t 10) (.seq (.region [Zo 4 (.mv (.c (.int .i64 1)))]) .ret) .skip)) (.seq (.seq (.region [Zm 11 0, Zo 12 (.nilchk (.t 11)), Zf 13 1 12, Zl 14 13]) (.cond (.t 14) (.seq (.region [Zo 4 (.mv (.c (.int .i64 7)))]) .ret) .skip)) (.seq (.region [Zo 15 (.load (some 9) (.t 3)), Zo 16 (.call (.f 13) [(.t 15)]), Zm 5 16]) (.seq (.seq (.region [Zm 17 5, Zb 18 .neq (.t 17) (.c (.int .i64 0))]) (.cond (.t 18) (.seq (.region [Zm 19 5, Zm 4 19]) .ret) .skip)) (.seq (.seq (.region [Zm 20 0, Zf 21 0 3, Zl 22 21, Zo 23 (.call (.f 121) [(.t 20), (.t 22)]), Zb 24 .geq (.t 23) (.c (.int .i64 0))]) (.cond (.t 24) (.seq (.region [Zo 4 (.mv (.c (.int .i64 5)))]) .ret) .skip)) (.seq (.seq (.region [Zm 25 0, Zo 26 (.nilchk (.t 25)), Zf 27 2 26, Zl 28 27, Zo 29 (.lenV (.t 28)), Zb 30 .geq (.t 29) (.c (.int .i64 64))]) (.cond (.t 30) (.seq (.region [Zo 4 (.mv (.c (.int .i64 14)))]) .ret) .skip)) (.seq (.region [Zo 6 (.mv (.c (.slice none 0 (.exact 0))))]) (.seq (.region [Zo 7 (.mv (.c (.bool false)))]) (.seq (.seq (.region [Zo 8 (.mv (.c (.int .i64 0)))]) (.block 0 (.loop (.seq (.seq (.region [Zm 31 8, Zm 32 0, Zo 33 (.nilchk (.t 32)), Zf 34 2 33, Zl 35 34, Zo 36 (.lenV (.t 35)), Zb 37 .lss (.t 31) (.t 36)]) (.cond (.t 37) .skip (.exit 0))) (.seq (.block 1 (.seq (.seq (.regionD [⟨Zm 40 7, 0, 0, false⟩, ⟨Zo 41 (.un .not (.t 40)), 0, 0, false⟩, ⟨Zm 42 41, 0, 0, false⟩, ⟨Zg 43 (.load (some 9) (.t 3)) 42 true, 0, 0, false⟩, ⟨Zg 44 (.mv (.t 0)) 42 true, 0, 0, false⟩, ⟨Zg 45 (.nilchk (.t 44)) 42 true, 0, 0, false⟩, ⟨Zg 46 (.faddr 2 (.t 45)) 42 true, 0, 0, false⟩, ⟨Zg 47 (.load none (.t 46)) 42 true, 0, 0, false⟩, ⟨Zg 48 (.mv (.t 8)) 42 true, 0, 0, false⟩, ⟨Zg 49 (.iaddrS 9 (.t 47) (.t 48)) 42 true, 0, 0, false⟩, ⟨Zg 50 (.load (some 9) (.t 49)) 42 true, 0, 0, false⟩, ⟨Zg 51 (.call (.f 122) [(.t 43), (.t 50)]) 42 true, 0, 1, false⟩, ⟨Zo 52 (.pick (.t 42) (.t 51) (.c (.bool false))), 1, 1, false⟩]) (.cond (.t 52) (.seq (.region [Zm 53 6, Zo 54 (.load (some 9) (.t 3)), Zo 55 (.call (.f 123) [(.t 54)]), Zo 56 (.litS 9 1 [(.str []), (.int .u8 0), (.int .u8 0), (.int .i64 0), (.int .i64 0), (.int .i64 0), (.int .u16 0), (.bool false), (.slice none 0 (.exact 0))] [(0, (9, (.t 55)))]), Zo 57 (.append 9 80 (.t 53) (.t 56)), Zm 6 57]) (.region [Zo 7 (.mv (.c (.bool true)))])) .skip)) (.region [Zm 58 6, Zm 59 0, Zo 60 (.nilchk (.t 59)), Zf 61 2 60, Zl 62 61, Zm 63 8, Zo 64 (.iaddrS 9 (.t 62) (.t 63)), Zo 65 (.load (some 9) (.t 64)), Zo 66 (.litS 9 1 [(.str []), (.int .u8 0), (.int .u8 0), (.int .i64 0), (.int .i64 0), (.int .i64 0), (.int .u16 0), (.bool false), (.slice none 0 (.exact 0))] [(0, (9, (.t 65)))]), Zo 67 (.append 9 80 (.t 58) (.t 66)), Zm 6 67]))) (.region [Zm 38 8, Zb 39 .add (.t 38) (.c (.int .i64 1)), Zm 8 39])))))) (.seq (.seq (.region [Zm 68 7, Zo 69 (.un .not (.t 68))]) (.cond (.t 69) (.region [Zm 70 6, Zo 71 (.load (some 9) (.t 3)), Zo 72 (.call (.f 123) [(.t 71)]), Zo 73 (.litS 9 1 [(.str []), (.int .u8 0), (.int .u8 0), (.int .i64 0), (.int .i64 0), (.int .i64 0), (.int .u16 0), (.bool false), (.slice none 0 (.exact 0))] [(0, (9, (.t 72)))]), Zo 74 (.append 9 80 (.t 70) (.t 73)), Zm 6 74]) .skip)) (.seq (.region [Zm 75 0, Zm 76 6, Zo 77 (.nilchk (.t 75)), Zf 78 2 77, Zn (.store 1 (.t 78) (.t 76))]) (.seq (.region [Zo 4 (.mv (.c (.int .i64 0)))]) .ret)))))))))))))⟩
theorem tbl63 : tbl Tryz.prog 63 = some cf63 := by kernel_rfl
def rbC (s : Bool) (v : AV) (ms : List Mrk) : List AV := [.bool true, .bool s, v] ++ tlB ms
theorem rb_0 (s : Bool) (v : AV) (ms : List Mrk) : (rbC s v ms)[0]? = some (.bool true) := rfl
theorem rb_1 (s : Bool) (v : AV) (ms : List Mrk) : (rbC s v ms)[1]? = some (.bool s) := rfl
theorem rb_2 (s : Bool) (v : AV) (ms : List Mrk) : (rbC s v ms)[2]? = some v := rfl
theorem rb_seal (s t : Bool) (v : AV) (ms : List Mrk) : Fs.over (rbC s v ms) 1 [.bool t] = rbC t v ms := rfl
theorem rb_len (s : Bool) (v : AV) (ms : List Mrk) : (rbC s v ms).length = 3 + (9 + ms.length * 4) := by
 unfold rbC tlB
 rw [List.length_append, List.length_append, rows_len mrk_len, List.length_replicate]
 rfl
theorem row_at {α : Type} {f : α → List AV} {k : Nat} (hk : ∀ a, (f a).length = k) {l : List α} {i : Nat} {a : α} (h : l[i]? = some a) : ((l.flatMap f).drop (i * k)).take k = f a ∧ i * k + k ≤ (l.flatMap f).length := by
 have := rows_at (pre := []) (post := []) hk h
 simpa using this
theorem RowW.read {M : Nat} {h : AH} {v : AV} {l : List Cv} (r : RowW Cv.cells 9 M h v l) {i : Nat} {x : Cv} (hx : l[i]? = some x) : ∃ b, v = .slice (some (b, 0)) l.length (.opn 9) ∧ M ≤ b ∧ b < h.n ∧ h.get b = some (.cells (l.flatMap Cv.cells) false) := by
 rcases r with ⟨rfl, _⟩ | ⟨b, h1, h2, h3, h4, _⟩
 · simp at hx
 · exact ⟨b, h3, h1, h2, h4⟩
theorem RowW.names {M : Nat} {h : AH} {v : AV} {l : List Cv} (r : RowW Cv.cells 9 M h v l) : ∃ a cap, v = .slice a (l.map (·.c.name)).length cap ∧ (l.map (·.c.name) = [] ∨ ∃ (rb : Nat) (rows : List AV) (ro2 : Bool), a = some (rb, 0) ∧ h.get rb = some (.cells rows ro2) ∧ ∀ (i : Nat) x, (l.map (·.c.name))[i]? = some x → rows[i * 9]? = some (.str x)) := by
 rcases r with ⟨rfl, rfl⟩ | ⟨b, h1, h2, rfl, h4, h5⟩
 · exact ⟨_, _, rfl, .inl rfl⟩
 · refine ⟨_, _, by rw [List.length_map], .inr ⟨b, _, _, rfl, h4, fun i x hx => ?_⟩⟩
   rw [List.getElem?_map, Option.map_eq_some_iff] at hx
   obtain ⟨y, hy, rfl⟩ := hx
   have := rows_cell (pre := []) (post := []) (j := 0) cv_len hy (by decide)
   simpa [Cv.cells, Crd.cells] using this
theorem lit9 {call : Rec} {tm : List AV} {h : AH} (t : Nat) (x : Cv) (ht : tm.getD t AV.undef = .agg x.cells) : runOp call (.litS 9 1 (zeroC.cells nilV) [(0, 9, .t t)]) tm h = some (.slice (some (h.n, 0)) 1 (.exact 1), h.push (.cells x.cells false)) := by
 have e : fillA tm (reps (zeroC.cells nilV) 1) [(0, 9, .t t)] = some x.cells := by
  simp only [fillA, CA.ev, ht, AV.cells, cv_len, reps]
  rfl
 rw [op_litS, e]
 simp only [cv_one, if_true]
def posR (c : Crd) : List Crd → Nat
 | [] => 0
 | x :: r => if aheadB c x = true then 0 else posR c r + 1
theorem posR_le (c : Crd) : ∀ xs : List Crd, posR c xs ≤ xs.length
 | [] => Nat.le_refl _
 | x :: r => by
   unfold posR
   split
   · simp
   · have := posR_le c r; simp; omega
theorem posR_at (c : Crd) : ∀ (xs : List Crd) (i : Nat) (x : Crd), i ≤ posR c xs → xs[i]? = some x → (aheadB c x = true ↔ posR c xs = i)
 | [], i, x, _, h => by simp at h
 | y :: r, 0, x, _, h => by
   simp only [List.getElem?_cons_zero, Option.some.injEq] at h
   subst h
   unfold posR
   split
   · simp [*]
   · simp [*]
 | y :: r, i + 1, x, hi, h => by
   unfold posR at hi ⊢
   split at hi
   · omega
   · rename_i hn
     rw [if_neg hn]
     have := posR_at c r i x (by omega) (by simpa using h)
     rw [this]; omega
theorem posR_lt (c : Crd) {xs : List Crd} {i : Nat} {x : Crd} (hi : i ≤ posR c xs) (hx : xs[i]? = some x) (ha : aheadB c x = false) : i < posR c xs := by
 have := posR_at c xs i x hi hx
 rw [ha] at this
 rcases Nat.lt_or_eq_of_le hi with h | h
 · exact h
 · have := this.2 h.symm; cases this
structure RkI (h : AH) (pb : Nat) (c : Crd) (v : AV) (ps : List Prt) (xs : List Cv) (n : Nat) (tm : List AV) (H : AH) : Prop where
 len : tm.length = 79
 t0 : tm.getD 0 AV.undef = .ptr (some (pb, 0))
 t3 : tm.getD 3 AV.undef = .ptr (some (h.n, 0))
 bx : H.get h.n = some (.cells (c.cells v) false)
 hn : h.n + 1 ≤ H.n
 old : ∀ b, b < h.n → H.get b = h.get b
 low : h.n ≤ H.low
 st : ∃ (i : Nat) (out : AV), n = xs.length - i ∧ i ≤ xs.length ∧ tm.getD 8 AV.undef = .int .i64 (i : Int) ∧ tm.getD 6 AV.undef = out ∧
  ((i ≤ posR c (xs.map (·.c)) ∧ tm.getD 7 AV.undef = .bool false ∧ RowW Cv.cells 9 (h.n + 1) H out (xs.take i)) ∨
   (posR c (xs.map (·.c)) < i ∧ tm.getD 7 AV.undef = .bool true ∧ ∃ cv : Cv, cv.c = c ∧ Own (h.n + 1) H cv.sl ps ∧ RowW Cv.cells 9 (h.n + 1) H out (xs.take (posR c (xs.map (·.c))) ++ cv :: (xs.drop (posR c (xs.map (·.c)))).take (i - posR c (xs.map (·.c))))))
theorem Own.app {N : Nat} {H H' : AH} {u v : AV} {l : List Cv} {ps : List Prt} (o : Own N H u ps) (r : RowW Cv.cells 9 N H v l) (hn : H.n ≤ H'.n) (hg : ∀ b, b < H.n → (∀ n c, v ≠ .slice (some (b, 0)) n c) → H'.get b = H.get b) : Own N H' u ps := by
 rcases o with o | ⟨b, o1, o2, o3, o4, o5⟩
 · exact .inl o
 · refine .inr ⟨b, o1, by omega, o3, ?_, o5⟩
   rw [hg b o2 fun n c e => ?_]
   · exact o4
   · rcases r with ⟨_, rfl⟩ | ⟨b', r1, r2, rfl, r4, r5⟩
     · cases e
     · simp only [AV.slice.injEq, Option.some.injEq, Prod.mk.injEq, and_true] at e
       obtain ⟨rfl, _, _⟩ := e
       rw [o4] at r4
       obtain ⟨p, ps', rfl⟩ := List.exists_cons_of_ne_nil o5
       obtain ⟨x, l', rfl⟩ := List.exists_cons_of_ne_nil r5
       simp only [List.flatMap_cons, Option.some.injEq, Blk.cells.injEq, and_true, Prt.cells, Cv.cells, Crd.cells, List.cons_append, List.cons.injEq] at r4
       cases r4.1
theorem rcard_spec (ho : orc 63 = none) {pb : Nat} {xs : List Cv} {lv : AV} {ms : List Mrk} (c : Crd) (v : AV) (ps : List Prt) {h : AH} (hb : h.get pb = some (.cells (rbC false lv ms) false)) (hpb : pb < h.n) (hl : xs.length ≤ 64) (hr : RowW Cv.cells 9 (pb + 1) h lv xs) (hw : Own (pb + 1) h v ps) (hps : ps.length * 40 ≤ 140737488355328)
    (hS : ∀ (H : AH) (cs : List AV), H.get pb = some (.cells cs false) → cs[0]? = some (.bool true) → acall orc T 120 [.ptr (some (pb, 0))] H = some (.bool false, H))
    (hK : ∀ (v : AV) (H : AH), Parts H v ps → acall orc T 13 [.agg (c.cells v)] H = some (.int .i64 (chkC c ps), H))
    (hP : ∀ (H : AH), H.get pb = some (.cells (rbC false lv ms) false) → RowW Cv.cells 9 (pb + 1) H lv xs → acall orc T 121 [.ptr (some (pb, 0)), .str c.name] H = some (.int .i64 (plc (xs.map (·.c.name)) c.name 0), H))
    (hA : ∀ (x : Cv) (a : Option (Nat × Nat)) (n : Nat) (cap : Cap) (H : AH), acall orc T 122 [.agg (c.cells (.slice a n cap)), .agg x.cells] H = some (.bool (aheadB c x.c), H))
    (hC : ∀ (N : Nat) (v : AV) (X : AH), Parts X v ps → N ≤ X.n → ∃ v1 h1, acall orc T 123 [.agg (c.cells v)] X = some (v1, h1) ∧ ∃ v', v1 = .agg (c.cells v') ∧ Ef.Kp N X h1 ∧ Parts h1 v' ps ∧ Own X.n h1 v' ps) :
    ∃ v1 h1, acall orc T 63 [.ptr (some (pb, 0)), .agg (c.cells v)] h = some (v1, h1) ∧ v1 = .int .i64 (cardE (xs.map (·.c.name)) c ps) ∧ (cardE (xs.map (·.c.name)) c ps ≠ 0 → h1 = h) ∧
     (cardE (xs.map (·.c.name)) c ps = 0 → ∃ (cv : Cv) (lv' : AV), cv.c = c ∧ Own h.n h1 cv.sl ps ∧ h1.get pb = some (.cells (rbC false lv' ms) false) ∧ RowW Cv.cells 9 h.n h1 lv' (xs.take (posR c (xs.map (·.c))) ++ cv :: xs.drop (posR c (xs.map (·.c))))) ∧
     h.n ≤ h1.n ∧ (∀ b, b < h.n → b ≠ pb → h1.get b = h.get b) ∧ (∀ N, N ≤ pb → N ≤ h.low → N ≤ h1.low) := by
 refine acall_facts (R := fun v1 h1 => v1 = .int .i64 (cardE (xs.map (·.c.name)) c ps) ∧ (cardE (xs.map (·.c.name)) c ps ≠ 0 → h1 = h) ∧
     (cardE (xs.map (·.c.name)) c ps = 0 → ∃ (cv : Cv) (lv' : AV), cv.c = c ∧ Own h.n h1 cv.sl ps ∧ h1.get pb = some (.cells (rbC false lv' ms) false) ∧ RowW Cv.cells 9 h.n h1 lv' (xs.take (posR c (xs.map (·.c))) ++ cv :: xs.drop (posR c (xs.map (·.c))))) ∧
     h.n ≤ h1.n ∧ (∀ b, b < h.n → b ≠ pb → h1.get b = h.get b) ∧ (∀ N, N ≤ pb → N ≤ h.low → N ≤ h1.low)) ho tbl63 ?_
 simp only [Ef.settle_fst1]
 have hp0 := own_prt hw (by omega)
 obtain ⟨a, cap, rfl⟩ := hw.slice
 have bx : ∀ (hh : AH), boxV (.agg (c.cells (.slice a ps.length cap))) hh = some (.ptr (some (hh.n, 0)), hh.push (.cells (c.cells (.slice a ps.length cap)) false)) := fun hh => boxV_agg _ rfl
 have x0 : (c.cells (.slice a ps.length cap))[0]? = some (.str c.name) := rfl
 have g1 : ∀ b, b < h.n → ((h.withLow h.n).push (.cells (c.cells (.slice a ps.length cap)) false)).get b = h.get b := fun b hb => by rw [Hp.get_push_ne _ _ _ (by simp; omega)]; rfl
 have hb1 := (g1 pb hpb).trans hb
 have p1 : Parts ((h.withLow h.n).push (.cells (c.cells (.slice a ps.length cap)) false)) (.slice a ps.length cap) ps := hp0.mono (by simp) g1
 have f1 := hS _ _ hb1 (rb_0 _ _ _)
 have f2 := hK _ _ p1
 have f3 := hP _ hb1 (hr.keep (by simp) fun b _ hb => g1 b hb)
 have k1 := rb_1 false lv ms
 have k2 := rb_2 false lv ms
 have y1 : (pb = h.n) = False := by simp; omega
 have stay : ∀ e : Int, Fs.settle h ((h.withLow h.n).push (.cells (c.cells (.slice a ps.length cap)) false)) (.int .i64 e) = (.int .i64 e, h) := fun e => settle_keep (by simp) rfl
 obtain ⟨la, lcap, hlv⟩ := hr.lenV
 have lvL : ∀ hh, lenV lv hh = some (.int .i64 (xs.length : Int), hh) := fun hh => by rw [hlv]; rfl
 refine GD ?_
 simp only [show ([AV.str [], AV.int .u8 0, AV.int .u8 0, AV.int .i64 0, AV.int .i64 0, AV.int .i64 0, AV.int .u16 0, AV.bool false, AV.slice none 0 (.exact 0)] : List AV) = zeroC.cells nilV from rfl]
 by_cases q1 : chkC c ps = 0
 case neg =>
  have e1 : (chkC c ps != 0) = true := by simp [q1]
  have e2 : cardE (xs.map (·.c.name)) c ps = chkC c ps := by unfold cardE; rw [if_pos q1]
  (have fct := Fj @bx (Fj @f1 (Fj @f2 (Fj @e1 (Fj @hb (Fj @k1 (Fj @y1 (Fj @op_nilchk (Fj @nilcV_ptr (Fj @cells_len @cells_take))))))))); refine GO ?_; clear fct)
  rw [e2]
  refine ⟨.inr rfl, .int .i64 (chkC c ps), rfl, ?_⟩
  rw [stay]
  exact ⟨rfl, fun _ => rfl, fun h => absurd h q1, Nat.le_refl _, fun _ _ _ => rfl, fun _ _ hN => hN⟩
 have e1 : (chkC c ps != 0) = false := by simp [q1]
 by_cases q2 : 0 ≤ plc (xs.map (·.c.name)) c.name 0
 case pos =>
  have e3 : decide (0 ≤ plc (xs.map (·.c.name)) c.name 0) = true := decide_eq_true q2
  have e2 : cardE (xs.map (·.c.name)) c ps = 5 := by unfold cardE; rw [if_neg (by simpa using q1), if_pos q2]
  (have fct := Fj @bx (Fj @f1 (Fj @f2 (Fj @f3 (Fj @e1 (Fj @e3 (Fj @hb (Fj @k1 (Fj @y1 (Fj @x0 (Fj @op_nilchk (Fj @nilcV_ptr (Fj @cells_len @cells_take)))))))))))); refine GO ?_; clear fct)
  rw [e2]
  refine ⟨.inr rfl, .int .i64 5, rfl, ?_⟩
  rw [stay]
  exact ⟨rfl, fun _ => rfl, fun h => absurd h (by decide), Nat.le_refl _, fun _ _ _ => rfl, fun _ _ hN => hN⟩
 have e3 : decide (0 ≤ plc (xs.map (·.c.name)) c.name 0) = false := decide_eq_false q2
 by_cases q3 : 64 ≤ xs.length
 case pos =>
  have e4 : decide ((64 : Int) ≤ (xs.length : Int)) = true := decide_eq_true (by omega)
  have e2 : cardE (xs.map (·.c.name)) c ps = 14 := by unfold cardE; rw [if_neg (by simpa using q1), if_neg q2, if_pos (by simpa using q3)]
  (have fct := Fj @bx (Fj @f1 (Fj @f2 (Fj @f3 (Fj @e1 (Fj @e3 (Fj @e4 (Fj @x0 (Fj @hb (Fj @k1 (Fj @k2 (Fj @y1 (Fj @lvL (Fj @op_nilchk (Fj @nilcV_ptr (Fj @cells_len @cells_take))))))))))))))); refine GO ?_; clear fct)
  rw [e2]
  refine ⟨.inr rfl, .int .i64 14, rfl, ?_⟩
  rw [stay]
  exact ⟨rfl, fun _ => rfl, fun h => absurd h (by decide), Nat.le_refl _, fun _ _ _ => rfl, fun _ _ hN => hN⟩
 have e4 : decide ((64 : Int) ≤ (xs.length : Int)) = false := decide_eq_false (by omega)
 have e2 : cardE (xs.map (·.c.name)) c ps = 0 := by unfold cardE; rw [if_neg (by simpa using q1), if_neg q2, if_neg (by simpa using q3)]
 (have fct := Fj @bx (Fj @f1 (Fj @f2 (Fj @f3 (Fj @e1 (Fj @e3 (Fj @e4 (Fj @x0 (Fj @hb (Fj @k1 (Fj @k2 (Fj @y1 (Fj @lvL (Fj @op_nilchk (Fj @nilcV_ptr (Fj @cells_len @cells_take))))))))))))))); refine GO ?_; clear fct)
 refine CodeK_loop (RkI h pb c (.slice a ps.length cap) ps xs) xs.length ?_ ?_
 · exact ⟨rfl, rfl, rfl, Hp.get_push_self _ _, by simp, g1, by simp, 0, .slice none 0 (.exact 0), rfl, by omega, rfl, rfl, .inl ⟨by omega, rfl, .inl ⟨rfl, rfl⟩⟩⟩
 clear f1 f2 f3 hb1 p1 bx e1 e3 e4 stay hS hK hP
 intro n tm H I
 obtain ⟨i, out, hni, hi, e8, e6, hst⟩ := I.st
 have el := I.len
 have e0 := I.t0
 have t3 := I.t3
 have b0 := I.bx
 have Hn := I.hn
 have old := I.old
 have lo := I.low
 clear I
 have pbH := (old pb hpb).trans hb
 have pH : Parts H (.slice a ps.length cap) ps := hp0.mono (by omega) old
 by_cases hlt : i < xs.length
 case neg =>
  obtain rfl : i = xs.length := by omega
  have l1 : decide ((xs.length : Int) < (xs.length : Int)) = false := by rw [decide_eq_false_iff_not]; omega
  have hjn := posR_le c (xs.map (·.c))
  rw [List.length_map] at hjn
  rcases hst with ⟨hij, e7, hrow⟩ | ⟨hij, e7, cv, hcv, hcp, hrow⟩
  · have hj : posR c (xs.map (·.c)) = xs.length := by omega
    (have fct := Fj @el (Fj @e0 (Fj @t3 (Fj @e6 (Fj @e7 (Fj @e8 (Fj @l1 (Fj @lvL (Fj @b0 (Fj @pbH (Fj @k2 (Fj @Nat.zero_add (Fj @op_nilchk (Fj @nilcV_ptr (Fj @cells_len @cells_take)))))))))))))); refine GODN ?_; clear fct)
    refine R_ex (by simp (maxDischargeDepth := 12) only [opsB, Nat.reduceEqDiff, Nat.reduceBEq, Nat.reduceBNe, Int.reduceBEq, Int.reduceBNe, Int.reduceLT, Int.reduceLE, Int.reduceEq, AV.one, AV.cells, CA.ev, abin, aint, aun, isShift, readVar, readCell, readCells, writeCells, fillA, reduceIte, Nat.reduceAdd, Nat.reduceSub, Nat.reduceLT, Nat.reduceLeDiff, resAll, resOne, AV.under, AV.unders, cut, el, t3, fsTm, Nat.reduceBEq, Nat.reduceLT]; (first | done | with_reducible rfl)) (hC h.n _ H pH (by omega)) fun v1 h1 hh => ?_
    obtain ⟨v0, rfl, kp, pp, ow⟩ := hh
    obtain ⟨a', cap', rfl⟩ := ow.slice
    have kn := kp.n
    refine R_tm (tm' := List.set _ 72 _) rfl ?_
    refine R_cons (tm' := List.set _ 73 _) (lit9 72 (⟨c, a', ps.length, cap'⟩ : Cv) (by simp only [fsTm, Nat.reduceBEq, Nat.reduceLT, el]; rfl)) rfl ?_
    refine R_ex (by simp (maxDischargeDepth := 12) only [opsB, Nat.reduceEqDiff, Nat.reduceBEq, Nat.reduceBNe, Int.reduceBEq, Int.reduceBNe, Int.reduceLT, Int.reduceLE, Int.reduceEq, AV.one, AV.cells, CA.ev, abin, aint, aun, isShift, readVar, readCell, readCells, writeCells, fillA, reduceIte, Nat.reduceAdd, Nat.reduceSub, Nat.reduceLT, Nat.reduceLeDiff, resAll, resOne, AV.under, AV.unders, cut, op_append, el, e6, fsTm, Nat.reduceBEq, Nat.reduceLT]; (first | done | with_reducible rfl)) (app_row (bytes := 80) cv_len (by decide) cv_one ((hrow.keep kn fun b _ hb => kp.get b hb).keep (by simp) fun b _ hb => Hp.get_push_ne _ _ _ (by omega)) (by simp; omega) (by simp only [List.length_append, List.length_take, List.length_cons, List.length_nil, List.length_drop]; omega) (by simp only [List.length_append, List.length_take, List.length_cons, List.length_nil, List.length_drop]; omega) (Hp.get_push_self _ _)) fun v2 H2 hh => ?_
    obtain ⟨hrow2, hn2, hf2, hg2, hlo2, hv2⟩ := hh
    refine R_tm (tm' := List.set _ 74 _) rfl ?_
    simp only [Hp.n_push] at hn2
    have o1 : Own (h.n + 1) (h1.push (.cells (⟨c, a', ps.length, cap'⟩ : Cv).cells false)) (.slice a' ps.length cap') ps := (ow.from (by omega)).off (by simp) fun b _ hb => Hp.get_push_ne _ _ _ (by omega)
    have o2 : Own (h.n + 1) H2 (.slice a' ps.length cap') ps := o1.app ((hrow.keep kn fun b _ hb => kp.get b hb).keep (by simp) fun b _ hb => Hp.get_push_ne _ _ _ (by omega)) (by simp; omega) hg2
    have hx2 : ∀ b, b < h.n + 1 → H2.get b = H.get b := fun b hb => by rw [hf2 b hb, Hp.get_push_ne _ _ _ (by omega), kp.get b (by omega)]
    have pbH2 := (hx2 pb (by omega)).trans pbH
    obtain ⟨oa, oc, hov⟩ := Go.Fs.RowW.lenV hrow2
    rw [hov] at hrow2
    have l2 : (2 < (rbC false lv ms).length) = True := by rw [rb_len]; simp; omega
    have l3 : (3 ≤ (rbC false lv ms).length) = True := by rw [rb_len]; simp
    have o4 : ∀ (a : Option (Nat × Nat)) (n : Nat) (cap : Cap), Fs.over (rbC false lv ms) 2 [.slice a n cap] = rbC false (.slice a n cap) ms := fun a n cap => rfl
    have pbF := pbH2
    (have fct := Fj @el (Fj @e0 (Fj @t3 (Fj @e7 (Fj @hov (Fj @l1 (Fj @b0 (Fj @k2 (Fj @pbF (Fj @l2 (Fj @l3 (Fj @o4 (Fj @op_nilchk @nilcV_ptr)))))))))))); refine GODN ?_; clear fct)
    refine ⟨.inr rfl, .int .i64 0, by simp [resAll, resOne, el], ?_⟩
    have hst2 : ∀ cs : List AV, Fs.settle h (H2.set pb (.cells cs false)) (.int .i64 0) = (.int .i64 0, (H2.set pb (.cells cs false)).withLow (min h.low (min H2.low pb))) := fun cs => by
     unfold Fs.settle
     rw [if_neg (fun hh => by have := hh.1; simp at this; omega)]
     rfl
    rw [hst2]
    have gg : ∀ (cs : List AV) b, b ≠ pb → ((H2.set pb (.cells cs false)).withLow (min h.low (min H2.low pb))).get b = H2.get b := fun cs b hb => by
     rw [Hp.get_withLow, Hp.get_set_ne _ _ _ _ hb]
    refine ⟨by rw [e2], fun hh => absurd e2 hh, fun _ => ⟨⟨c, a', ps.length, cap'⟩, _, rfl, ?_, Hp.get_set_self _ _ _, ?_⟩, by simp; omega, fun b hb hne => ?_, fun N hN1 hN2 => ?_⟩
    · exact ((o2).from (by omega)).off (by simp) fun b q1 q2 => gg _ b (by omega)
    · refine Go.Fs.RowW.keep (Go.Fs.RowW.low (by rw [hj, List.drop_length]; exact hrow2) (by omega)) (by simp) fun b q1 q2 => gg _ b (by omega)
    · rw [gg _ b hne, hx2 b (by omega), old b hb]
    · have := hlo2 h.n (by omega) (kp.low (by omega) lo)
      simp; omega
  · have e9 : (xs.drop (posR c (xs.map (·.c)))).take (xs.length - posR c (xs.map (·.c))) = xs.drop (posR c (xs.map (·.c))) := List.take_of_length_le (by rw [List.length_drop]; omega)
    rw [e9] at hrow
    obtain ⟨oa, oc, hov⟩ := Go.Fs.RowW.lenV hrow
    rw [hov] at hrow
    have l2 : (2 < (rbC false lv ms).length) = True := by rw [rb_len]; simp; omega
    have l3 : (3 ≤ (rbC false lv ms).length) = True := by rw [rb_len]; simp
    have o4 : ∀ (a : Option (Nat × Nat)) (n : Nat) (cap : Cap), Fs.over (rbC false lv ms) 2 [.slice a n cap] = rbC false (.slice a n cap) ms := fun a n cap => rfl
    have pbF := pbH
    (have fct := Fj @el (Fj @e0 (Fj @t3 (Fj @e6 (Fj @e8 (Fj @lvL (Fj @e7 (Fj @hov (Fj @l1 (Fj @b0 (Fj @k2 (Fj @pbF (Fj @l2 (Fj @l3 (Fj @o4 (Fj @op_nilchk @nilcV_ptr))))))))))))))); refine GODN ?_; clear fct)
    refine ⟨.inr rfl, .int .i64 0, by simp [resAll, resOne, el], ?_⟩
    have hst2 : ∀ cs : List AV, Fs.settle h (H.set pb (.cells cs false)) (.int .i64 0) = (.int .i64 0, (H.set pb (.cells cs false)).withLow (min h.low (min H.low pb))) := fun cs => by
     unfold Fs.settle
     rw [if_neg (fun hh => by have := hh.1; simp at this; omega)]
     rfl
    rw [hst2]
    have gg : ∀ (cs : List AV) b, b ≠ pb → ((H.set pb (.cells cs false)).withLow (min h.low (min H.low pb))).get b = H.get b := fun cs b hb => by
     rw [Hp.get_withLow, Hp.get_set_ne _ _ _ _ hb]
    refine ⟨by rw [e2], fun hh => absurd e2 hh, fun _ => ⟨cv, _, hcv, ?_, Hp.get_set_self _ _ _, ?_⟩, by simp; omega, fun b hb hne => ?_, fun N hN1 hN2 => ?_⟩
    · exact ((hcp).from (by omega)).off (by simp) fun b q1 q2 => gg _ b (by omega)
    · refine Go.Fs.RowW.keep (Go.Fs.RowW.low (hrow) (by omega)) (by simp) fun b q1 q2 => gg _ b (by omega)
    · rw [gg _ b hne, old b hb]
    · have := lo
      simp; omega
 case pos =>
 have l1 : decide ((i : Int) < (xs.length : Int)) = true := by rw [decide_eq_true_eq]; omega
 obtain ⟨x, hx⟩ : ∃ x, xs[i]? = some x := ⟨_, List.getElem?_eq_getElem hlt⟩
 obtain ⟨rb, rfl, hrb1, hrb2, hrg⟩ := RowW.read hr hx
 have hrH := (old rb hrb2).trans hrg
 obtain ⟨c2, c1⟩ := row_at cv_len hx
 have c1' : (i * 9 + 9 ≤ (xs.flatMap Cv.cells).length) = True := eq_true c1
 have a1 := fun (hh : AH) => iaddrV_nat (h := hh) (esz := 9) (b := rb) (o := 0) (c := .opn 9) (k := .i64) hlt
 have w1 : IntKind.wrap .i64 ((i : Int) + 1) = ((i + 1 : Nat) : Int) := by rw [wrap_i64 (by omega) (by omega)]; omega
 have fA := hA x a ps.length cap
 have hxc : (xs.map (·.c))[i]? = some x.c := by rw [List.getElem?_map, hx]; rfl
 rcases hst with ⟨hij, e7, hrow⟩ | ⟨hij, e7, cv, hcv, hcp, hrow⟩
 · cases hq : aheadB c x.c with
   | false =>
     rw [hq] at fA
     have hlt2 := posR_lt c hij hxc hq
     (have fct := Fj @el (Fj @e0 (Fj @t3 (Fj @e6 (Fj @e7 (Fj @e8 (Fj @l1 (Fj @b0 (Fj @pbH (Fj @hrH (Fj @k2 (Fj @c1' (Fj @c2 (Fj @a1 (Fj @fA (Fj @Nat.zero_add (Fj @op_nilchk (Fj @nilcV_ptr (Fj @cells_len @cells_take)))))))))))))))))); refine GODN ?_; clear fct)
     refine R_cons (tm' := List.set _ 66 _) (lit9 65 x (by simp only [fsTm, Nat.reduceBEq, Nat.reduceLT, el])) rfl ?_
     refine R_ex (by simp (maxDischargeDepth := 12) only [opsB, Nat.reduceEqDiff, Nat.reduceBEq, Nat.reduceBNe, Int.reduceBEq, Int.reduceBNe, Int.reduceLT, Int.reduceLE, Int.reduceEq, AV.one, AV.cells, CA.ev, abin, aint, aun, isShift, readVar, readCell, readCells, writeCells, fillA, reduceIte, Nat.reduceAdd, Nat.reduceSub, Nat.reduceLT, Nat.reduceLeDiff, resAll, resOne, AV.under, AV.unders, cut, op_append, el, e6, fsTm, Nat.reduceBEq, Nat.reduceLT]; (first | done | with_reducible rfl)) (app_row (bytes := 80) cv_len (by decide) cv_one (hrow.keep (by simp) fun b _ hb => Hp.get_push_ne _ _ _ (by omega)) (by simp; omega) (by simp only [List.length_append, List.length_take, List.length_cons, List.length_nil, List.length_drop]; omega) (by simp only [List.length_append, List.length_take, List.length_cons, List.length_nil, List.length_drop]; omega) (Hp.get_push_self _ _)) fun v' H' hh => ?_
     obtain ⟨hrow', hn', hf', hg', hlo', hv'⟩ := hh
     refine R_tm (tm' := List.set _ 67 _) rfl ?_
     have ho' : ∀ b, b < h.n + 1 → H'.get b = H.get b := fun b hb => by rw [hf' b hb, Hp.get_push_ne _ _ _ (by omega)]
     simp only [Hp.n_push] at hn'
     (have fct := Fj @el (Fj @e0 (Fj @t3 (Fj @e8 @w1))); refine GODN ?_; clear fct)
     refine ⟨xs.length - (i + 1), by omega, by simp only [List.length_set, el], by simp only [fsTm, Nat.reduceBEq, Nat.reduceLT, el, e0], by simp only [fsTm, Nat.reduceBEq, Nat.reduceLT, el, t3], by rw [ho' _ (by omega)]; exact b0, by omega, fun b hb => by rw [ho' b (by omega)]; exact old b hb, hlo' _ (by omega) (by simpa using lo), i + 1, v', rfl, by omega, by simp only [fsTm, Nat.reduceBEq, Nat.reduceLT, el], by simp only [fsTm, Nat.reduceBEq, Nat.reduceLT, el], ?_⟩
     refine .inl ⟨by omega, by simp only [fsTm, Nat.reduceBEq, Nat.reduceLT, el, e7], ?_⟩
     rw [List.take_add_one, hx]
     exact hrow'
   | true =>
     rw [hq] at fA
     have hj := (posR_at c _ i x.c hij hxc).1 hq
     (have fct := Fj @el (Fj @e0 (Fj @t3 (Fj @e6 (Fj @e7 (Fj @e8 (Fj @l1 (Fj @b0 (Fj @pbH (Fj @hrH (Fj @k2 (Fj @c1' (Fj @c2 (Fj @a1 (Fj @fA (Fj @Nat.zero_add (Fj @op_nilchk (Fj @nilcV_ptr (Fj @cells_len @cells_take)))))))))))))))))); refine GODN ?_; clear fct)
     refine R_ex (by simp (maxDischargeDepth := 12) only [opsB, Nat.reduceEqDiff, Nat.reduceBEq, Nat.reduceBNe, Int.reduceBEq, Int.reduceBNe, Int.reduceLT, Int.reduceLE, Int.reduceEq, AV.one, AV.cells, CA.ev, abin, aint, aun, isShift, readVar, readCell, readCells, writeCells, fillA, reduceIte, Nat.reduceAdd, Nat.reduceSub, Nat.reduceLT, Nat.reduceLeDiff, resAll, resOne, AV.under, AV.unders, cut, el, t3, fsTm, Nat.reduceBEq, Nat.reduceLT]; (first | done | with_reducible rfl)) (hC h.n _ H pH (by omega)) fun v1 h1 hh => ?_
     obtain ⟨v0, rfl, kp, pp, ow⟩ := hh
     obtain ⟨a', cap', rfl⟩ := ow.slice
     have kn := kp.n
     refine R_tm (tm' := List.set _ 55 _) rfl ?_
     refine R_cons (tm' := List.set _ 56 _) (lit9 55 (⟨c, a', ps.length, cap'⟩ : Cv) (by simp only [fsTm, Nat.reduceBEq, Nat.reduceLT, el]; rfl)) rfl ?_
     refine R_ex (by simp (maxDischargeDepth := 12) only [opsB, Nat.reduceEqDiff, Nat.reduceBEq, Nat.reduceBNe, Int.reduceBEq, Int.reduceBNe, Int.reduceLT, Int.reduceLE, Int.reduceEq, AV.one, AV.cells, CA.ev, abin, aint, aun, isShift, readVar, readCell, readCells, writeCells, fillA, reduceIte, Nat.reduceAdd, Nat.reduceSub, Nat.reduceLT, Nat.reduceLeDiff, resAll, resOne, AV.under, AV.unders, cut, op_append, el, e6, fsTm, Nat.reduceBEq, Nat.reduceLT]; (first | done | with_reducible rfl)) (app_row (bytes := 80) cv_len (by decide) cv_one ((hrow.keep kn fun b _ hb => kp.get b hb).keep (by simp) fun b _ hb => Hp.get_push_ne _ _ _ (by omega)) (by simp; omega) (by simp only [List.length_append, List.length_take, List.length_cons, List.length_nil, List.length_drop]; omega) (by simp only [List.length_append, List.length_take, List.length_cons, List.length_nil, List.length_drop]; omega) (Hp.get_push_self _ _)) fun v2 H2 hh => ?_
     obtain ⟨hrow2, hn2, hf2, hg2, hlo2, hv2⟩ := hh
     refine R_tm (tm' := List.set _ 57 _) rfl ?_
     simp only [Hp.n_push] at hn2
     have o1 : Own (h.n + 1) (h1.push (.cells (⟨c, a', ps.length, cap'⟩ : Cv).cells false)) (.slice a' ps.length cap') ps := (ow.from (by omega)).off (by simp) fun b _ hb => Hp.get_push_ne _ _ _ (by omega)
     have o2 : Own (h.n + 1) H2 (.slice a' ps.length cap') ps := o1.app ((hrow.keep kn fun b _ hb => kp.get b hb).keep (by simp) fun b _ hb => Hp.get_push_ne _ _ _ (by omega)) (by simp; omega) hg2
     have hx2 : ∀ b, b < h.n + 1 → H2.get b = H.get b := fun b hb => by rw [hf2 b hb, Hp.get_push_ne _ _ _ (by omega), kp.get b (by omega)]
     have b02 := (hx2 h.n (by omega)).trans b0
     have pbH2 := (hx2 pb (by omega)).trans pbH
     have hrH2 : H2.get rb = some (.cells (xs.flatMap Cv.cells) false) := by rw [hx2 rb (by omega)]; exact hrH
     (have fct := Fj @el (Fj @e0 (Fj @t3 (Fj @e6 (Fj @e7 (Fj @e8 (Fj @l1 (Fj @b02 (Fj @pbH2 (Fj @hrH2 (Fj @k2 (Fj @c1' (Fj @c2 (Fj @a1 (Fj @fA (Fj @Nat.zero_add (Fj @op_nilchk (Fj @nilcV_ptr (Fj @cells_len @cells_take)))))))))))))))))); refine GODN ?_; clear fct)
     refine R_cons (tm' := List.set _ 66 _) (lit9 65 x (by simp only [fsTm, Nat.reduceBEq, Nat.reduceLT, el])) rfl ?_
     refine R_ex (by simp (maxDischargeDepth := 12) only [opsB, Nat.reduceEqDiff, Nat.reduceBEq, Nat.reduceBNe, Int.reduceBEq, Int.reduceBNe, Int.reduceLT, Int.reduceLE, Int.reduceEq, AV.one, AV.cells, CA.ev, abin, aint, aun, isShift, readVar, readCell, readCells, writeCells, fillA, reduceIte, Nat.reduceAdd, Nat.reduceSub, Nat.reduceLT, Nat.reduceLeDiff, resAll, resOne, AV.under, AV.unders, cut, op_append, el, fsTm, Nat.reduceBEq, Nat.reduceLT]; (first | done | with_reducible rfl)) (app_row (bytes := 80) cv_len (by decide) cv_one (hrow2.keep (by simp) fun b _ hb => Hp.get_push_ne _ _ _ (by omega)) (by simp; omega) (by simp only [List.length_append, List.length_take, List.length_cons, List.length_nil, List.length_drop]; omega) (by simp only [List.length_append, List.length_take, List.length_cons, List.length_nil, List.length_drop]; omega) (Hp.get_push_self _ _)) fun v' H' hh => ?_
     obtain ⟨hrow', hn', hf', hg', hlo', hv'⟩ := hh
     refine R_tm (tm' := List.set _ 67 _) rfl ?_
     have ho' : ∀ b, b < h.n + 1 → H'.get b = H.get b := fun b hb => by rw [hf' b hb, Hp.get_push_ne _ _ _ (by omega), hx2 b hb]
     have lo2 : h.n ≤ H2.low := hlo2 _ (by omega) (kp.low (by omega) lo)
     have o3 : Own (h.n + 1) H' (.slice a' ps.length cap') ps := (o2.off (by simp) fun b _ hb => Hp.get_push_ne _ _ _ (by omega)).app (hrow2.keep (by simp) fun b _ hb => Hp.get_push_ne _ _ _ (by omega)) (by omega) hg'
     simp only [Hp.n_push] at hn'
     (have fct := Fj @el (Fj @e0 (Fj @t3 (Fj @e8 @w1))); refine GODN ?_; clear fct)
     refine ⟨xs.length - (i + 1), by omega, by simp only [List.length_set, el], by simp only [fsTm, Nat.reduceBEq, Nat.reduceLT, el, e0], by simp only [fsTm, Nat.reduceBEq, Nat.reduceLT, el, t3], by rw [ho' _ (by omega)]; exact b0, by omega, fun b hb => by rw [ho' b (by omega)]; exact old b hb, hlo' _ (by omega) (by simpa using lo2), i + 1, v', rfl, by omega, by simp only [fsTm, Nat.reduceBEq, Nat.reduceLT, el], by simp only [fsTm, Nat.reduceBEq, Nat.reduceLT, el], ?_⟩
     refine .inr ⟨by omega, by simp only [fsTm, Nat.reduceBEq, Nat.reduceLT, el], ⟨c, a', ps.length, cap'⟩, rfl, o3, ?_⟩
     rw [hj, show i + 1 - i = 1 by omega]
     have e9 : (xs.drop i).take 1 = [x] := by
      obtain ⟨hm, he⟩ := List.getElem?_eq_some_iff.1 hx
      rw [List.drop_eq_getElem_cons hm, he]; rfl
     rw [e9]
     simpa using hrow'
 · (have fct := Fj @el (Fj @e0 (Fj @t3 (Fj @e6 (Fj @e7 (Fj @e8 (Fj @l1 (Fj @b0 (Fj @pbH (Fj @hrH (Fj @k2 (Fj @c1' (Fj @c2 (Fj @a1 (Fj @Nat.zero_add (Fj @op_nilchk (Fj @nilcV_ptr (Fj @cells_len @cells_take))))))))))))))))); refine GODN ?_; clear fct)
   refine R_cons (tm' := List.set _ 66 _) (lit9 65 x (by simp only [fsTm, Nat.reduceBEq, Nat.reduceLT, el])) rfl ?_
   refine R_ex (by simp (maxDischargeDepth := 12) only [opsB, Nat.reduceEqDiff, Nat.reduceBEq, Nat.reduceBNe, Int.reduceBEq, Int.reduceBNe, Int.reduceLT, Int.reduceLE, Int.reduceEq, AV.one, AV.cells, CA.ev, abin, aint, aun, isShift, readVar, readCell, readCells, writeCells, fillA, reduceIte, Nat.reduceAdd, Nat.reduceSub, Nat.reduceLT, Nat.reduceLeDiff, resAll, resOne, AV.under, AV.unders, cut, op_append, el, e6, fsTm, Nat.reduceBEq, Nat.reduceLT]; (first | done | with_reducible rfl)) (app_row (bytes := 80) cv_len (by decide) cv_one (hrow.keep (by simp) fun b _ hb => Hp.get_push_ne _ _ _ (by omega)) (by simp; omega) (by simp only [List.length_append, List.length_take, List.length_cons, List.length_nil, List.length_drop]; omega) (by simp only [List.length_append, List.length_take, List.length_cons, List.length_nil, List.length_drop]; omega) (Hp.get_push_self _ _)) fun v' H' hh => ?_
   obtain ⟨hrow', hn', hf', hg', hlo', hv'⟩ := hh
   refine R_tm (tm' := List.set _ 67 _) rfl ?_
   have ho' : ∀ b, b < h.n + 1 → H'.get b = H.get b := fun b hb => by rw [hf' b hb, Hp.get_push_ne _ _ _ (by omega)]
   simp only [Hp.n_push] at hn'
   (have fct := Fj @el (Fj @e0 (Fj @t3 (Fj @e8 @w1))); refine GODN ?_; clear fct)
   refine ⟨xs.length - (i + 1), by omega, by simp only [List.length_set, el], by simp only [fsTm, Nat.reduceBEq, Nat.reduceLT, el, e0], by simp only [fsTm, Nat.reduceBEq, Nat.reduceLT, el, t3], by rw [ho' _ (by omega)]; exact b0, by omega, fun b hb => by rw [ho' b (by omega)]; exact old b hb, hlo' _ (by omega) (by simpa using lo), i + 1, v', rfl, by omega, by simp only [fsTm, Nat.reduceBEq, Nat.reduceLT, el], by simp only [fsTm, Nat.reduceBEq, Nat.reduceLT, el], ?_⟩
   refine .inr ⟨by omega, by simp only [fsTm, Nat.reduceBEq, Nat.reduceLT, el, e7], cv, hcv, ?_, ?_⟩
   · exact (hcp.off (by simp) fun b _ hb => Hp.get_push_ne _ _ _ (by omega)).app (hrow.keep (by simp) fun b _ hb => Hp.get_push_ne _ _ _ (by omega)) (by simp; omega) hg'
   · have e9 : (xs.drop (posR c (xs.map (·.c)))).take (i + 1 - posR c (xs.map (·.c))) = (xs.drop (posR c (xs.map (·.c)))).take (i - posR c (xs.map (·.c))) ++ [x] := by
       rw [show i + 1 - posR c (xs.map (·.c)) = (i - posR c (xs.map (·.c))) + 1 by omega, List.take_add_one, List.getElem?_drop, show posR c (xs.map (·.c)) + (i - posR c (xs.map (·.c))) = i by omega, hx]
       rfl
     rw [e9]
     simpa using hrow'
end Go.Proofs.Cards
