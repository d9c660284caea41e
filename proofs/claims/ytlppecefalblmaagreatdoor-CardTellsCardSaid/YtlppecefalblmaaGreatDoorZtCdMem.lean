/- Lists of parts in memory, and cards: held against each other, copied, lent, kept. -/
import Derived.Test.YtlppecefalblmaaGreatDoorFz05
import Derived.Test.YtlppecefalblmaaGreatDoorZtEfMore
import Derived.Test.YtlppecefalblmaaGreatDoorFz05
namespace Go.Proofs.Cards
set_option maxRecDepth 100000
set_option maxHeartbeats 32000000
open Go Go.Fs
set_option linter.unusedSimpArgs false
set_option linter.unusedVariables false
noncomputable abbrev T := tbl Tryz.prog
variable {orc : Orc}
def cf7 : CF := ⟨16, [(.cell 2 (some 9)), (.tmp 3)], (.seq (.region [Zo 1 (.box (.t 0)), Zo 2 (.alloc [(.str []), (.int .u8 0), (.int .u8 0), (.int .i64 0), (.int .i64 0), (.int .i64 0), (.int .u16 0), (.bool false), (.slice none 0 (.exact 0))]), Zo 3 (.mv (.c (.slice none 0 (.exact 0))))]) (.seq (.region [Zf 5 8 1, Zl 6 5, Zo 7 (.call (.f 35) [(.t 6)]), Zm 4 7]) (.seq (.region [Zm 8 4, Zf 9 8 1, Zl 10 9, Zo 11 (.lenV (.t 10)), Zo 12 (.slcV 8 (.t 8) none (some (.t 11)) none), Zf 13 8 1, Zn (.store 1 (.t 13) (.t 12))]) (.seq (.region [Zo 14 (.load (some 9) (.t 1)), Zm 15 4, Zn (.store 9 (.t 2) (.t 14)), Zm 3 15]) .ret))))⟩
def cf35 : CF := ⟨16, [(.tmp 2)], (.seq (.region [Zo 2 (.mv (.c (.slice none 0 (.exact 0))))]) (.seq (.region [Zm 4 0, Zo 5 (.lenV (.t 4)), Zb 6 .add (.t 5) (.c (.int .i64 2)), Zo 7 (.mkS 40 8 [(.int .u8 0), (.int .u8 0), (.int .u8 0), (.int .i64 0), (.int .u8 0), (.int .u8 0), (.int .u8 0), (.str [])] (.c (.int .i64 0)) (.t 6)), Zm 3 7]) (.seq (.region [Zm 8 3, Zm 9 0, Zo 10 (.append 8 40 (.t 8) (.t 9)), Zm 3 10]) (.seq (.region [Zm 11 3, Zo 12 (.build [(.int .u8 0), (.int .u8 0), (.int .u8 0), (.int .i64 0), (.int .u8 0), (.int .u8 0), (.int .u8 0), (.str [])] [(7, (1, (.c (.str [109, 97, 114, 107]))))]), Zo 13 (.build [(.int .u8 0), (.int .u8 0), (.int .u8 0), (.int .i64 0), (.int .u8 0), (.int .u8 0), (.int .u8 0), (.str [])] [(7, (1, (.c (.str [109, 97, 114, 107]))))]), Zo 14 (.litS 8 2 [(.int .u8 0), (.int .u8 0), (.int .u8 0), (.int .i64 0), (.int .u8 0), (.int .u8 0), (.int .u8 0), (.str [])] [(0, (8, (.t 12))), (8, (8, (.t 13)))]), Zo 15 (.append 8 40 (.t 11) (.t 14)), Zm 2 15]) .ret))))⟩
def cf17 : CF := ⟨68, [(.tmp 4)], (.seq (.region [Zo 2 (.box (.t 0)), Zo 3 (.box (.t 1)), Zo 4 (.mv (.c (.bool false)))]) (.seq (.region [Zf 6 0 2, Zl 7 6, Zf 8 0 3, Zl 9 8, Zb 10 .eql (.t 7) (.t 9), Zm 11 10, Zg 12 (.faddr 1 (.t 2)) 11 true, Zg 13 (.load none (.t 12)) 11 true, Zg 14 (.faddr 1 (.t 3)) 11 true, Zg 15 (.load none (.t 14)) 11 true, Zg 16 (.bin .eql .other (.t 13) (.t 15)) 11 true, Zo 17 (.pick (.t 11) (.t 16) (.c (.bool false))), Zm 18 17, Zg 19 (.faddr 2 (.t 2)) 18 true, Zg 20 (.load none (.t 19)) 18 true, Zg 21 (.faddr 2 (.t 3)) 18 true, Zg 22 (.load none (.t 21)) 18 true, Zg 23 (.bin .eql .other (.t 20) (.t 22)) 18 true, Zo 24 (.pick (.t 18) (.t 23) (.c (.bool false))), Zm 25 24, Zg 26 (.faddr 3 (.t 2)) 25 true, Zg 27 (.load none (.t 26)) 25 true, Zg 28 (.faddr 3 (.t 3)) 25 true, Zg 29 (.load none (.t 28)) 25 true, Zg 30 (.bin .eql .other (.t 27) (.t 29)) 25 true, Zo 31 (.pick (.t 25) (.t 30) (.c (.bool false))), Zm 32 31, Zg 33 (.faddr 4 (.t 2)) 32 true, Zg 34 (.load none (.t 33)) 32 true, Zg 35 (.faddr 4 (.t 3)) 32 true, Zg 36 (.load none (.t 35)) 32 true, Zg 37 (.bin .eql .other (.t 34) (.t 36)) 32 true, Zo 38 (.pick (.t 32) (.t 37) (.c (.bool false))), Zm 39 38, Zg 40 (.faddr 5 (.t 2)) 39 true, Zg 41 (.load none (.t 40)) 39 true, Zg 42 (.faddr 5 (.t 3)) 39 true, Zg 43 (.load none (.t 42)) 39 true, Zg 44 (.bin .eql .other (.t 41) (.t 43)) 39 true, Zo 45 (.pick (.t 39) (.t 44) (.c (.bool false))), Zm 5 45]) (.seq (.region [Zm 46 5, Zm 47 46, Zg 48 (.faddr 6 (.t 2)) 47 true, Zg 49 (.load none (.t 48)) 47 true, Zg 50 (.faddr 6 (.t 3)) 47 true, Zg 51 (.load none (.t 50)) 47 true, Zg 52 (.bin .eql .other (.t 49) (.t 51)) 47 true, Zo 53 (.pick (.t 47) (.t 52) (.c (.bool false))), Zm 54 53, Zg 55 (.faddr 7 (.t 2)) 54 true, Zg 56 (.load none (.t 55)) 54 true, Zg 57 (.faddr 7 (.t 3)) 54 true, Zg 58 (.load none (.t 57)) 54 true, Zg 59 (.bin .eql .scal (.t 56) (.t 58)) 54 true, Zo 60 (.pick (.t 54) (.t 59) (.c (.bool false))), Zm 61 60, Zg 62 (.faddr 8 (.t 2)) 61 true, Zg 63 (.load none (.t 62)) 61 true, Zg 64 (.faddr 8 (.t 3)) 61 true, Zg 65 (.load none (.t 64)) 61 true, Zg 66 (.call (.f 56) [(.t 63), (.t 65)]) 61 true, Zo 67 (.pick (.t 61) (.t 66) (.c (.bool false))), Zm 4 67]) .ret)))⟩
def cf56 : CF := ⟨26, [(.tmp 4)], (.seq (.region [Zo 4 (.mv (.c (.bool false)))]) (.seq (.seq (.region [Zm 6 0, Zo 7 (.lenV (.t 6)), Zm 8 1, Zo 9 (.lenV (.t 8)), Zb 10 .neq (.t 7) (.t 9)]) (.cond (.t 10) (.seq (.region [Zo 4 (.mv (.c (.bool false)))]) .ret) .skip)) (.seq (.seq (.region [Zo 5 (.mv (.c (.int .i64 0)))]) (.block 0 (.loop (.seq (.seq (.region [Zm 11 5, Zm 12 0, Zo 13 (.lenV (.t 12)), Zb 14 .lss (.t 11) (.t 13)]) (.cond (.t 14) .skip (.exit 0))) (.seq (.block 1 (.seq (.regionD [⟨Zm 17 0, 0, 0, false⟩, ⟨Zm 18 5, 0, 0, false⟩, ⟨Zo 19 (.iaddrS 8 (.t 17) (.t 18)), 0, 0, false⟩, ⟨Zo 20 (.load (some 8) (.t 19)), 0, 0, false⟩, ⟨Zm 21 1, 0, 0, false⟩, ⟨Zm 22 5, 0, 0, false⟩, ⟨Zo 23 (.iaddrS 8 (.t 21) (.t 22)), 0, 0, false⟩, ⟨Zo 24 (.load (some 8) (.t 23)), 0, 0, false⟩, ⟨Zo 25 (.bin .neq (.agg 8 [(0, .i), (1, .i), (2, .i), (3, .i), (4, .i), (5, .i), (6, .i), (7, .s)]) (.t 20) (.t 24)), 0, 0, false⟩]) (.cond (.t 25) (.seq (.region [Zo 4 (.mv (.c (.bool false)))]) .ret) .skip))) (.region [Zm 15 5, Zb 16 .add (.t 15) (.c (.int .i64 1)), Zm 5 16])))))) (.seq (.region [Zo 4 (.mv (.c (.bool true)))]) .ret))))⟩
def cf15 : CF := ⟨13, [(.tmp 4)], (.seq (.region [Zo 4 (.mv (.c (.bool false)))]) (.seq (.region [Zm 5 0, Zm 6 1, Zo 7 (.call (.f 57) [(.t 6)]), Zo 8 (.build [(.int .u8 0), (.int .u8 0), (.int .u8 0), (.int .i64 0), (.int .u8 0), (.int .u8 0), (.int .u8 0), (.str [])] [(7, (1, (.c (.str [109, 97, 114, 107]))))]), Zo 9 (.build [(.int .u8 0), (.int .u8 0), (.int .u8 0), (.int .i64 0), (.int .u8 0), (.int .u8 0), (.int .u8 0), (.str [])] [(7, (1, (.c (.str [109, 97, 114, 107]))))]), Zo 10 (.litS 8 2 [(.int .u8 0), (.int .u8 0), (.int .u8 0), (.int .i64 0), (.int .u8 0), (.int .u8 0), (.int .u8 0), (.str [])] [(0, (8, (.t 8))), (8, (8, (.t 9)))]), Zo 11 (.append 8 40 (.t 7) (.t 10)), Zo 12 (.call (.f 56) [(.t 5), (.t 11)]), Zm 4 12]) .ret))⟩
def cf57 : CF := ⟨7, [(.tmp 2)], (.seq (.region [Zo 2 (.mv (.c (.slice none 0 (.exact 0))))]) (.seq (.region [Zo 3 (.mv (.c (.slice none 0 (.exact 0))))]) (.seq (.region [Zm 4 3, Zm 5 0, Zo 6 (.append 8 40 (.t 4) (.t 5)), Zm 2 6]) .ret)))⟩
theorem tbl7 : tbl Tryz.prog 7 = some cf7 := by kernel_rfl
theorem tbl35 : tbl Tryz.prog 35 = some cf35 := by kernel_rfl
theorem tbl17 : tbl Tryz.prog 17 = some cf17 := by kernel_rfl
theorem tbl56 : tbl Tryz.prog 56 = some cf56 := by kernel_rfl
theorem tbl15 : tbl Tryz.prog 15 = some cf15 := by kernel_rfl
theorem tbl57 : tbl Tryz.prog 57 = some cf57 := by kernel_rfl
structure Prt where
 a : Int
 b : Int
 c : Int
 d : Int
 e : Int
 f : Int
 g : Int
 s : List UInt8
 deriving DecidableEq
def Prt.cells (p : Prt) : List AV := [.int .u8 p.a, .int .u8 p.b, .int .u8 p.c, .int .i64 p.d, .int .u8 p.e, .int .u8 p.f, .int .u8 p.g, .str p.s]
def Parts (h : AH) (v : AV) (ps : List Prt) : Prop :=
 ∃ (a : Option (Nat × Nat)) (c : Cap), v = .slice a ps.length c ∧ ps.length ≤ 1152921504606846976 ∧
  (ps = [] ∨ ∃ (b : Nat) (o : Nat) (cells : List AV) (ro : Bool), a = some (b, o) ∧ b < h.n ∧ h.get b = some (.cells cells ro) ∧ ∀ (i : Nat) (p : Prt), ps[i]? = some p → cut cells (o + i * 8) 8 = some p.cells)
theorem Parts.mono {h h' : AH} {v : AV} {ps : List Prt} (hi : Parts h v ps) (hn : h.n ≤ h'.n) (ho : ∀ b, b < h.n → h'.get b = h.get b) : Parts h' v ps := by
 obtain ⟨a, c, h1, h2, h3⟩ := hi
 refine ⟨a, c, h1, h2, ?_⟩
 rcases h3 with h3 | ⟨b, o, cells, ro, g1, g2, g3, g4⟩
 · exact .inl h3
 · exact .inr ⟨b, o, cells, ro, g1, by omega, by rw [ho b g2]; exact g3, g4⟩
def partEq (p q : Prt) : Bool := (p.a == q.a && (p.b == q.b && (p.c == q.c && (p.d == q.d && (p.e == q.e && (p.f == q.f && (p.g == q.g && (decide (p.s = q.s) && true))))))))
theorem partEq_iff (p q : Prt) : partEq p q = true ↔ p = q := by
 cases p; cases q
 simp [partEq]
theorem cut_parts {cells : List AV} {o n : Nat} {xs : List AV} (h : cut cells o n = some xs) : o + n ≤ cells.length ∧ (cells.drop o).take n = xs := by
 unfold cut at h
 split at h
 · rename_i hle; exact ⟨hle, by simpa using h⟩
 · cases h
theorem take_step {α : Type} {xs ys : List α} {i : Nat} {x y : α} (hx : xs[i]? = some x) (hy : ys[i]? = some y) (h : xs.take i = ys.take i) (e : x = y) : xs.take (i + 1) = ys.take (i + 1) := by
 rw [List.take_add_one, List.take_add_one, hx, hy, h, e]
structure InvS (h0 : AH) (v u : AV) (ps qs : List Prt) (n : Nat) (tm : List AV) (h : AH) : Prop where
 len : tm.length = 26
 t0 : tm.getD 0 AV.undef = v
 t1 : tm.getD 1 AV.undef = u
 st : ∃ i : Nat, n = ps.length - i ∧ i ≤ ps.length ∧ tm.getD 5 AV.undef = .int .i64 i ∧ ps.take i = qs.take i
 heap : h = h0.withLow h0.n
theorem same_spec (ho : orc 56 = none) {ps qs : List Prt} {v u : AV} {h : AH} (hp : Parts h v ps) (hq : Parts h u qs) : acall orc T 56 [v, u] h = some (.bool (decide (ps = qs)), h) := by
 refine acall_sym ho tbl56 ?_
 obtain ⟨a, c, rfl, hl, hpa⟩ := hp
 obtain ⟨a', c', rfl, hl', hqa⟩ := hq
 refine GD ?_
 by_cases hlen : qs.length = ps.length
 case neg =>
  have hne : ¬ ps = qs := fun e => hlen (by rw [e])
  have n1 : ((ps.length : Int) != (qs.length : Int)) = true := by simp; omega
  have n2 : decide (ps = qs) = false := by simp [hne]
  rw [n2]
  (have fct := Fj @Fs.over.eq_1 @n1; (repeat' first | refine A_walk ?_ | exact trivial | refine GuardK_split (fun hb => ?_) (fun hb => ?_) | refine CondK_split (fun hb => ?_) (fun hb => ?_) | refine CodeK_regionD _ ?_ | refine DGuardK_split (fun hb => ?_) (fun hb => ?_)); all_goals try clear fct)
 case pos =>
  rw [hlen]
  generalize hm : ps.length = m at *
  (have fct := Fj @Fs.over.eq_1 @bne_self_eq_false.{0}; (repeat' first | refine A_walk ?_ | exact trivial | refine GuardK_split (fun hb => ?_) (fun hb => ?_) | refine CondK_split (fun hb => ?_) (fun hb => ?_) | refine CodeK_regionD _ ?_ | refine DGuardK_split (fun hb => ?_) (fun hb => ?_)); all_goals try clear fct)
  refine CodeK_loop (InvS h (.slice a m c) (.slice a' m c') ps qs) m ?_ ?_
  · exact ⟨rfl, rfl, rfl, ⟨0, by omega, by omega, rfl, rfl⟩, rfl⟩
  · intro n tm h' I
    obtain ⟨i, hn, hi, e5, htake⟩ := I.st
    have el := I.len
    have e0 := I.t0
    have e1 := I.t1
    have hh := I.heap
    subst hh
    by_cases hlt : i < m
    case neg =>
     have l1 : decide ((i : Int) < (m : Int)) = false := by simp; omega
     have hall : ps = qs := by
      have h1 : ps.take i = ps := List.take_of_length_le (by omega)
      have h2 : qs.take i = qs := List.take_of_length_le (by omega)
      rw [← h1, ← h2, htake]
     have n2 : decide (ps = qs) = true := by simp [hall]
     rw [n2]
     (have fct := Fj @Fs.over.eq_1 (Fj @el (Fj @e0 (Fj @e1 (Fj @e5 @l1)))); (repeat' first | refine A_walk ?_ | exact trivial | refine GuardK_split (fun hb => ?_) (fun hb => ?_) | refine CondK_split (fun hb => ?_) (fun hb => ?_) | refine CodeK_regionD _ ?_ | refine DGuardK_split (fun hb => ?_) (fun hb => ?_)); all_goals try clear fct)
    case pos =>
     have l1 : decide ((i : Int) < (m : Int)) = true := by simp; omega
     have hpi := List.getElem?_eq_getElem (l := ps) (i := i) (by omega)
     have hqi := List.getElem?_eq_getElem (l := qs) (i := i) (by omega)
     generalize ps[i]'(by omega) = p at hpi
     generalize qs[i]'(by omega) = q at hqi
     rcases hpa with rfl | ⟨b, o, cells, ro, rfl, hb, hg, hc⟩
     · simp at hm; omega
     rcases hqa with rfl | ⟨b', o', cells', ro', rfl, hb', hg', hc'⟩
     · simp at hlen; omega
     have k1 := hc i p hpi
     have k2 := hc' i q hqi
     have w1 : IntKind.wrap .i64 ((i : Int) + 1) = ((i + 1 : Nat) : Int) := by
      rw [wrap_i64 (by omega) (by omega)]
      omega
     obtain ⟨x1, y1⟩ := cut_parts k1
     obtain ⟨x2, y2⟩ := cut_parts k2
     dsimp only [Prt.cells] at y1 y2
     rw [Nat.add_assoc] at x1 x2
     have hee := partEq_iff p q
     unfold partEq at hee
     cases hpq : (p.a == q.a && (p.b == q.b && (p.c == q.c && (p.d == q.d && (p.e == q.e && (p.f == q.f && (p.g == q.g && (decide (p.s = q.s) && true)))))))) with
     | true =>
       have e : p = q := hee.1 hpq
       repeat' first | (simp only [opsB, ctlB, Nat.reduceEqDiff, Nat.reduceBEq, Nat.reduceBNe, Int.reduceBEq, Int.reduceBNe, Int.reduceLT, Int.reduceLE, Int.reduceEq, CO.quiet, CO.reads, AV.one, AV.cells, CA.ev, abin, aint, aun, isShift, readVar, readCell, readCells, writeCells, fillA, reduceIte, Nat.reduceAdd, Nat.reduceSub, Nat.reduceLT, Nat.reduceLeDiff, resAll, resOne, AV.under, AV.unders, cut, put, DoneK, Kept, KeptOne, closeOp, Fs.over, el, e0, e1, e5, l1, hg, hg', x1, x2, y1, y2, w1, hpq, iaddrV_nat hlt, fsTm, Nat.reduceBEq, Nat.reduceLT, *]) | (refine GuardK_split (fun hb => ?_) (fun hb => ?_)) | (refine CondK_split (fun hb => ?_) (fun hb => ?_)) | (refine CodeK_regionD _ ?_) | (refine DGuardK_split (fun hb => ?_) (fun hb => ?_))
       refine ⟨ps.length - (i + 1), by omega, ?_⟩
       refine ⟨by simp only [List.length_set, el], by simp only [fsTm, Nat.reduceBEq, Nat.reduceLT, el, e0], by simp only [fsTm, Nat.reduceBEq, Nat.reduceLT, el, e1], ⟨i + 1, rfl, by omega, by simp only [fsTm, Nat.reduceBEq, Nat.reduceLT, el], ?_⟩, rfl⟩
       exact take_step hpi hqi htake e
     | false =>
       have e : ¬ ps = qs := fun e0 => by
        rw [e0, hqi] at hpi
        have : q = p := by simpa using hpi
        rw [hee.2 this.symm] at hpq
        cases hpq
       have n2 : decide (ps = qs) = false := by simp [e]
       rw [n2]
       repeat' first | (simp only [opsB, ctlB, Nat.reduceEqDiff, Nat.reduceBEq, Nat.reduceBNe, Int.reduceBEq, Int.reduceBNe, Int.reduceLT, Int.reduceLE, Int.reduceEq, CO.quiet, CO.reads, AV.one, AV.cells, CA.ev, abin, aint, aun, isShift, readVar, readCell, readCells, writeCells, fillA, reduceIte, Nat.reduceAdd, Nat.reduceSub, Nat.reduceLT, Nat.reduceLeDiff, resAll, resOne, AV.under, AV.unders, cut, put, DoneK, Kept, KeptOne, closeOp, Fs.over, el, e0, e1, e5, l1, hg, hg', x1, x2, y1, y2, w1, hpq, iaddrV_nat hlt, fsTm, Nat.reduceBEq, Nat.reduceLT, *]) | (refine GuardK_split (fun hb => ?_) (fun hb => ?_)) | (refine CondK_split (fun hb => ?_) (fun hb => ?_)) | (refine CodeK_regionD _ ?_) | (refine DGuardK_split (fun hb => ?_) (fun hb => ?_))
       exfalso
       simp_all
def pcells (ps : List Prt) : List AV := ps.flatMap Prt.cells
theorem length_cells (p : Prt) : p.cells.length = 8 := rfl
theorem length_pcells : ∀ ps : List Prt, (pcells ps).length = 8 * ps.length
 | [] => rfl
 | p :: ps => by
   have := length_pcells ps
   simp only [pcells, List.flatMap_cons, List.length_append, length_cells, List.length_cons] at this ⊢
   omega
theorem pcells_append (a b : List Prt) : pcells (a ++ b) = pcells a ++ pcells b := by simp [pcells]
theorem one_cells (p : Prt) : p.cells.all AV.one = true := rfl
theorem one_pcells : ∀ ps : List Prt, (pcells ps).all AV.one = true
 | [] => rfl
 | p :: ps => by
   have := one_pcells ps
   simp only [pcells, List.flatMap_cons, List.all_append, one_cells, Bool.true_and] at this ⊢
   exact this
theorem cut_of {cells : List AV} {o n : Nat} {xs : List AV} (h1 : o + n ≤ cells.length) (h2 : (cells.drop o).take n = xs) : cut cells o n = some xs := by
 unfold cut; rw [if_pos h1, h2]
theorem cut_all {cells : List AV} : ∀ (ps : List Prt) (o : Nat), ps ≠ [] → (∀ (i : Nat) (p : Prt), ps[i]? = some p → cut cells (o + i * 8) 8 = some p.cells) → cut cells o (ps.length * 8) = some (pcells ps)
 | [], _, h, _ => absurd rfl h
 | p :: ps, o, _, hc => by
   obtain ⟨h1, h2⟩ := cut_parts (hc 0 p rfl)
   rw [Nat.zero_mul, Nat.add_zero] at h1 h2
   by_cases hne : ps = []
   · subst hne
     exact cut_of (by simpa using h1) (by simpa [pcells] using h2)
   · have ih := cut_all ps (o + 8) hne fun i q hq => by
       have := hc (i + 1) q (by simpa using hq)
       rw [show o + (i + 1) * 8 = o + 8 + i * 8 by omega] at this
       exact this
     obtain ⟨h3, h4⟩ := cut_parts ih
     refine cut_of (by simp only [List.length_cons]; omega) ?_
     simp only [List.length_cons]
     rw [show (ps.length + 1) * 8 = 8 + ps.length * 8 by omega, List.take_add, h2, List.drop_drop, h4]
     simp [pcells]
theorem cut_at {ps : List Prt} {pre post : List AV} {i : Nat} {p : Prt} (hp : ps[i]? = some p) : cut (pre ++ pcells ps ++ post) (pre.length + i * 8) 8 = some p.cells := by
 have hlt : i < ps.length := (List.getElem?_eq_some_iff.1 hp).1
 have e : ps = ps.take i ++ p :: ps.drop (i + 1) := by
  have hg : ps[i] = p := by
   have := List.getElem?_eq_getElem hlt
   rw [this] at hp
   exact Option.some.inj hp
  rw [← hg, List.getElem_cons_drop, List.take_append_drop]
 refine cut_of ?_ ?_
 · simp only [List.length_append, length_pcells]; omega
 · have e2 : pre ++ pcells ps ++ post = (pre ++ pcells (ps.take i)) ++ (p.cells ++ (pcells (ps.drop (i + 1)) ++ post)) := by
     conv => lhs; rw [e]
     simp [pcells]
   have hl : (pre ++ pcells (ps.take i)).length = pre.length + i * 8 := by
    simp only [List.length_append, length_pcells, List.length_take]; omega
   rw [e2, ← hl, List.drop_left, ← length_cells p, List.take_left]
theorem elems_parts {h : AH} {v : AV} {ps : List Prt} (hp : Parts h v ps) : elemsOf 8 h v = some (pcells ps) ∧ lenOf v = some ps.length := by
 obtain ⟨a, c, rfl, _, h3⟩ := hp
 refine ⟨?_, rfl⟩
 by_cases hne : ps = []
 · subst hne; rfl
 · rcases h3 with h3 | ⟨b, o, cells, ro, rfl, hb, hg, hc⟩
   · exact absurd h3 hne
   · have hz : ¬ ps.length = 0 := by simpa using hne
     simp only [elemsOf, if_neg hz, readCells, hg]
     exact cut_all ps o hne hc
theorem parts_block {h : AH} {b n : Nat} {c : Cap} {ps qs : List Prt} {ro : Bool} (hg : h.get b = some (.cells (pcells (ps ++ qs)) ro)) (hb : b < h.n) (hn : n = ps.length) (hl : ps.length ≤ 1152921504606846976) : Parts h (.slice (some (b, 0)) n c) ps := by
 subst hn
 refine ⟨_, c, rfl, hl, .inr ⟨b, 0, _, ro, rfl, hb, hg, fun i p hp => ?_⟩⟩
 have := cut_at (pre := []) (post := pcells qs) hp
 rw [pcells_append]
 simpa using this
def mark : Prt := ⟨0, 0, 0, 0, 0, 0, 0, [109, 97, 114, 107]⟩
def Copied (h : AH) (ps : List Prt) (v : AV) (h' : AH) : Prop :=
 (ps = [] ∧ v = .slice none 0 (.exact 0) ∧ h' = h) ∨
 (ps ≠ [] ∧ v = .slice (some (h.n, 0)) ps.length (.opn 8) ∧ h'.n = h.n + 1 ∧ h'.get h.n = some (.cells (pcells ps) false) ∧ (∀ b, b < h.n → h'.get b = h.get b) ∧ min h.low h.n ≤ h'.low)
theorem append_nil {h : AH} {x : AV} {ps : List Prt} (hp : Parts h x ps) (hl : ps.length * 40 ≤ 140737488355328) :
    appendRun 8 40 (.slice none 0 (.exact 0)) x h = if ps.length = 0 then some (.slice none 0 (.exact 0), h) else some (.slice (some (h.n, 0)) ps.length (.opn 8), h.push (.cells (pcells ps) false)) := by
 obtain ⟨h1, h2⟩ := elems_parts hp
 unfold appendRun
 rw [h2, Option.bind_some, h1, Option.bind_some]
 unfold appendCore
 simp only [elemsOf, if_true, Option.bind_some, Nat.zero_add, List.nil_append]
 by_cases hz : ps.length = 0
 · rw [if_pos (by omega), if_pos hz]
 · rw [if_neg (by omega), if_neg hz, if_pos ⟨by omega, by omega⟩]
theorem copy_spec (ho : orc 57 = none) {v : AV} {ps : List Prt} {h : AH} (hp : Parts h v ps) (hl : ps.length * 40 ≤ 140737488355328) :
    ∃ v' h', acall orc T 57 [v] h = some (v', h') ∧ Copied h ps v' h' := by
 refine acall_facts ho tbl57 ?_
 have hp' : Parts (h.withLow h.n) v ps := hp.mono (Nat.le_refl _) fun _ _ => rfl
 have ha := append_nil hp' hl
 refine GD ?_
 by_cases hz : ps.length = 0
 · rw [if_pos hz] at ha
   (have fct := Fj @Fs.over.eq_1 (Fj @op_append @ha); (repeat' first | refine A_walk ?_ | exact trivial | refine GuardK_split (fun hb => ?_) (fun hb => ?_) | refine CondK_split (fun hb => ?_) (fun hb => ?_) | refine CodeK_regionD _ ?_ | refine DGuardK_split (fun hb => ?_) (fun hb => ?_)); all_goals try clear fct)
   refine ⟨_, rfl, .inl ⟨by simpa using hz, ?_⟩⟩
   rw [settle_keep (by simp) (by simp [AV.under])]
   exact ⟨rfl, rfl⟩
 · rw [if_neg hz] at ha
   (have fct := Fj @Fs.over.eq_1 (Fj @op_append @ha); (repeat' first | refine A_walk ?_ | exact trivial | refine GuardK_split (fun hb => ?_) (fun hb => ?_) | refine CondK_split (fun hb => ?_) (fun hb => ?_) | refine CodeK_regionD _ ?_ | refine DGuardK_split (fun hb => ?_) (fun hb => ?_)); all_goals try clear fct)
   refine ⟨_, rfl, .inr ⟨by simpa using hz, ?_⟩⟩
   rw [settle_new (by simp [AV.under])]
   refine ⟨rfl, rfl, ?_, fun b hb => ?_, ?_⟩
   · simp only [Hp.get_withLow, Hp.get_push, Hp.n_withLow, if_true]
   · have : ¬ b = h.n := by omega
     simp only [Hp.get_withLow, Hp.get_push, Hp.n_withLow, this, if_false]
   · simp only [Hp.low_withLow, Hp.low_push]; omega
theorem append_room_parts {h : AH} {b k c : Nat} {as' qs : List Prt} {rest : List AV} {x : AV} (hg : h.get b = some (.cells (pcells as' ++ rest) false)) (hk : k = as'.length) (hx : Parts h x qs) (hc : k + qs.length ≤ c) (hr : 8 * qs.length ≤ rest.length) :
    ∃ v h', appendRun 8 40 (.slice (some (b, 0)) k (.exact c)) x h = some (v, h') ∧ v = .slice (some (b, 0)) (k + qs.length) (.exact c) ∧ h'.n = h.n ∧ h'.get b = some (.cells (pcells (as' ++ qs) ++ rest.drop (8 * qs.length)) false) ∧
     (∀ b', b' ≠ b → h'.get b' = h.get b') ∧ min h.low b ≤ h'.low := by
 obtain ⟨h1, h2⟩ := elems_parts hx
 subst hk
 have hold : ∃ old, elemsOf 8 h (.slice (some (b, 0)) as'.length (.exact c)) = some old := by
  by_cases hz : as'.length = 0
  · exact ⟨[], by simp only [elemsOf, if_pos hz]⟩
  · refine ⟨pcells as', ?_⟩
    simp only [elemsOf, if_neg hz, readCells, hg]
    refine cut_of (by simp only [List.length_append, length_pcells]; omega) ?_
    rw [List.drop_zero, show as'.length * 8 = (pcells as').length by rw [length_pcells]; omega, List.take_left]
 obtain ⟨old, hold⟩ := hold
 have hrun : appendRun 8 40 (.slice (some (b, 0)) as'.length (.exact c)) x h =
     if qs.length = 0 then some (.slice (some (b, 0)) as'.length (.exact c), h) else (writeCells h b (0 + as'.length * 8) (pcells qs)).map fun h' => (.slice (some (b, 0)) (as'.length + qs.length) (.exact c), h') := by
  unfold appendRun
  rw [h2, Option.bind_some, h1, Option.bind_some]
  unfold appendCore
  simp only
  rw [hold, Option.bind_some]
  rw [if_pos hc]
 rw [hrun]
 by_cases hz : qs.length = 0
 · rw [if_pos hz]
   have hq : qs = [] := by simpa using hz
   subst hq
   exact ⟨_, h, rfl, rfl, rfl, by simpa using hg, fun _ _ => rfl, Nat.min_le_left _ _⟩
 · rw [if_neg hz]
   have hw : writeCells h b (0 + as'.length * 8) (pcells qs) = some (h.set b (.cells (pcells (as' ++ qs) ++ rest.drop (8 * qs.length)) false)) := by
    unfold writeCells
    rw [hg]
    simp only
    rw [if_pos (by
     rw [one_pcells]
     simp only [List.length_append, length_pcells, Bool.and_true, decide_eq_true_eq]; omega)]
    congr 2
    congr 1
    unfold over
    have e1 : 0 + as'.length * 8 = (pcells as').length := by rw [length_pcells]; omega
    rw [e1, List.take_left, pcells_append]
    congr 1
    rw [length_pcells qs, List.drop_append]
    have e2 : (pcells as').length + 8 * qs.length - (pcells as').length = 8 * qs.length := by omega
    rw [e2, List.drop_of_length_le (by omega), List.nil_append]
   rw [hw]
   exact ⟨_, _, rfl, rfl, rfl, Hp.get_set_self _ _ _, fun b' hb' => Hp.get_set_ne _ _ _ _ hb', by simp⟩
theorem length_reps (z : List AV) : ∀ n, (reps z n).length = n * z.length
 | 0 => by simp [reps]
 | n + 1 => by simp only [reps, List.length_append, length_reps z n, Nat.succ_mul]; omega
def Lent (h : AH) (ps : List Prt) (v : AV) (h' : AH) : Prop :=
 v = .slice (some (h.n, 0)) (ps.length + 2) (.exact (ps.length + 2)) ∧ h.n < h'.n ∧ h'.get h.n = some (.cells (pcells (ps ++ [mark, mark])) false) ∧ (∀ b, b < h.n → h'.get b = h.get b) ∧ min h.low h.n ≤ h'.low
theorem lent_spec (ho : orc 35 = none) {v : AV} {ps : List Prt} {h : AH} (hp : Parts h v ps) (hl : ps.length * 40 ≤ 140737488355328) :
    ∃ v' h', acall orc T 35 [v] h = some (v', h') ∧ Lent h ps v' h' := by
 refine acall_facts ho tbl35 ?_
 obtain ⟨a, c, rfl, hle, hpa⟩ := id hp
 have w1 : IntKind.wrap .i64 ((ps.length : Int) + 2) = ((ps.length + 2 : Nat) : Int) := by
  rw [wrap_i64 (by omega) (by omega)]
  omega
 have m1 : ∀ hx : AH, mkSV 40 [.int .u8 0, .int .u8 0, .int .u8 0, .int .i64 0, .int .u8 0, .int .u8 0, .int .u8 0, .str []] (.int .i64 0) (.int .i64 ((ps.length + 2 : Nat) : Int)) hx =
     some (.slice (some (hx.n, 0)) 0 (.exact (ps.length + 2)), hx.push (.cells (reps [.int .u8 0, .int .u8 0, .int .u8 0, .int .i64 0, .int .u8 0, .int .u8 0, .int .u8 0, .str []] (ps.length + 2)) false)) := fun hx =>
  mkSV_at (h := hx) (l := 0) (by omega) (by omega) (by omega)
 generalize hz : reps [.int .u8 0, .int .u8 0, .int .u8 0, .int .i64 0, .int .u8 0, .int .u8 0, .int .u8 0, .str []] (ps.length + 2) = zs at m1
 have hzl : zs.length = (ps.length + 2) * 8 := by rw [← hz, length_reps]; rfl
 refine GD ?_
 (have fct := Fj @Fs.over.eq_1 (Fj @op_mkS (Fj @w1 (Fj @m1 @op_append))); (repeat' first | refine A_walk ?_ | exact trivial | refine GuardK_split (fun hb => ?_) (fun hb => ?_) | refine CondK_split (fun hb => ?_) (fun hb => ?_) | refine CodeK_regionD _ ?_ | refine DGuardK_split (fun hb => ?_) (fun hb => ?_)); all_goals try clear fct)
 refine ResK_ex (append_room_parts (as' := []) (qs := ps) (rest := zs) ?_ rfl ?_ ?_ ?_) fun v1 h1 ⟨e1, e2, e3, e4, e5⟩ => ?_
 · simp only [Hp.get_push, Hp.n_withLow, if_true, pcells, List.flatMap_nil, List.nil_append]
 · exact hp.mono (by simp) fun b hb => by
     have : ¬ b = h.n := by omega
     simp only [Hp.get_push, Hp.n_withLow, this, if_false, Hp.get_withLow]
 · omega
 · omega
 · subst e1
   simp only [Hp.n_push, Hp.n_withLow, Nat.zero_add, List.nil_append] at e2 e3 e5
   simp only [Nat.zero_add]
   (have fct := Fj @Fs.over.eq_1 (Fj @op_litS (Fj @op_append fsReps)); (repeat' first | refine A_walk ?_ | exact trivial | refine GuardK_split (fun hb => ?_) (fun hb => ?_) | refine CondK_split (fun hb => ?_) (fun hb => ?_) | refine CodeK_regionD _ ?_ | refine DGuardK_split (fun hb => ?_) (fun hb => ?_)); all_goals try clear fct)
   refine ResK_ex (append_room_parts (as' := ps) (qs := [mark, mark]) (rest := zs.drop (8 * ps.length)) ?_ rfl ?_ ?_ ?_) fun v2 h2 ⟨f1, f2, f3, f4, f5⟩ => ?_
   · have : ¬ h.n = h1.n := by omega
     simp only [Hp.get_push, this, if_false, e3]
   · refine parts_block (qs := []) (ro := false) ?_ ?_ rfl (by decide)
     · rw [Hp.get_push, if_pos e2.symm]
       rfl
     · rw [Hp.n_push]; omega
   · simp
   · simp only [List.length_drop, List.length_cons, List.length_nil]; omega
   · subst f1
     simp only [List.length_cons, List.length_nil, Nat.zero_add, Nat.reduceAdd]
     (have fct := @Fs.over.eq_1; (repeat' first | refine A_walk ?_ | exact trivial | refine GuardK_split (fun hb => ?_) (fun hb => ?_) | refine CondK_split (fun hb => ?_) (fun hb => ?_) | refine CodeK_regionD _ ?_ | refine DGuardK_split (fun hb => ?_) (fun hb => ?_)); all_goals try clear fct)
     refine ⟨_, rfl, ?_⟩
     rw [settle_new (by simp [AV.under])]
     have hnil : List.drop (8 * [mark, mark].length) (List.drop (8 * ps.length) zs) = [] := by
      apply List.drop_of_length_le
      simp only [List.length_drop, List.length_cons, List.length_nil]; omega
     rw [hnil, List.append_nil] at f3
     simp only [Hp.n_push] at f2
     refine ⟨rfl, ?_, ?_, fun b hb => ?_, ?_⟩
     · simp only [Hp.n_withLow]; omega
     · simp only [Hp.get_withLow]; exact f3
     · have n1 : ¬ b = h.n := by omega
       have n2 : ¬ b = h1.n := by omega
       simp only [Hp.get_withLow]
       rw [f4 b n1, Hp.get_push, if_neg n2, e4 b n1, Hp.get_push, Hp.n_withLow, if_neg n1, Hp.get_withLow]
     · simp only [Hp.low_withLow]
       simp only [Hp.low_push, Hp.low_withLow] at e5 f5
       omega
theorem append_copy {h : AH} {b : Nat} {ps qs : List Prt} {v x : AV} (hv : (ps = [] ∧ v = .slice none 0 (.exact 0)) ∨ (v = .slice (some (b, 0)) ps.length (.opn 8) ∧ h.get b = some (.cells (pcells ps) false)))
    (hx : Parts h x qs) (hq : 0 < qs.length) (hl : (ps.length + qs.length) * 40 ≤ 140737488355328) :
    ∃ v' h', appendRun 8 40 v x h = some (v', h') ∧ Parts h' v' (ps ++ qs) ∧ h.n ≤ h'.n ∧ (∀ b', b' < h.n → b' ≠ b → h'.get b' = h.get b') ∧ min h.low b ≤ h'.low := by
 rcases hv with ⟨rfl, rfl⟩ | ⟨rfl, hg⟩
 · have := append_nil hx (by simpa using hl)
   rw [if_neg (by omega)] at this
   refine ⟨_, _, this, ?_, by simp, fun b' hb' _ => Hp.get_push_ne _ _ _ (by omega), by simp; omega⟩
   refine parts_block (ps := [] ++ qs) (qs := []) (ro := false) ?_ (by simp) (by simp) (by simp; omega)
   rw [Hp.get_push_self]
   simp
 · obtain ⟨h1, h2⟩ := elems_parts hx
   have hold : elemsOf 8 h (.slice (some (b, 0)) ps.length (.opn 8)) = some (pcells ps) := by
    by_cases hz : ps.length = 0
    · have : ps = [] := by simpa using hz
      subst this
      rfl
    · simp only [elemsOf, if_neg hz, readCells, hg]
      refine cut_of (by rw [length_pcells]; omega) ?_
      rw [List.drop_zero, List.take_of_length_le (by rw [length_pcells]; omega)]
   refine ⟨.slice (some (h.n, 0)) (ps.length + qs.length) (.opn 8), (h.set b .dead).push (.cells (pcells ps ++ pcells qs) false), ?_, ?_, by simp, fun b' hb' hne => ?_, ?_⟩
   · unfold appendRun
     rw [h2, Option.bind_some, h1, Option.bind_some]
     unfold appendCore
     simp only
     rw [hold, Option.bind_some]
     simp only [if_true, hg]
     rw [if_neg (by omega), if_neg (by rw [length_pcells]; omega), if_pos ⟨by rw [length_pcells]; omega, one_pcells qs⟩, if_pos ⟨by omega, by omega⟩]
     rfl
   · refine parts_block (ps := ps ++ qs) (qs := []) (ro := false) ?_ (by simp) (by simp) (by simp; omega)
     rw [show h.n = (h.set b .dead).n from rfl, Hp.get_push_self, List.append_nil, pcells_append]
   · rw [Hp.get_push_ne _ _ _ (by simp; omega), Hp.get_set_ne _ _ _ _ hne]
   · simp
theorem kept_spec (ho : orc 15 = none) (ho2 : orc 56 = none) (ho3 : orc 57 = none) {v u : AV} {fs ps : List Prt} {h : AH} (hf : Parts h v fs) (hp : Parts h u ps) (hl : (ps.length + 2) * 40 ≤ 140737488355328) :
    acall orc T 15 [v, u] h = some (.bool (decide (fs = ps ++ [mark, mark])), h) := by
 refine acall_sym ho tbl15 ?_
 refine GD ?_
 (have fct := @Fs.over.eq_1; (repeat' first | refine A_walk ?_ | exact trivial | refine GuardK_split (fun hb => ?_) (fun hb => ?_) | refine CondK_split (fun hb => ?_) (fun hb => ?_) | refine CodeK_regionD _ ?_ | refine DGuardK_split (fun hb => ?_) (fun hb => ?_)); all_goals try clear fct)
 refine ResK_ex (copy_spec ho3 (ps := ps) (hp.mono (Nat.le_refl _) fun _ _ => rfl) (by omega)) fun v1 h1 hc => ?_
 have g1 : h.n ≤ h1.n ∧ (∀ b, b < h.n → h1.get b = h.get b) ∧ h.n ≤ h1.low ∧ ((ps = [] ∧ v1 = .slice none 0 (.exact 0)) ∨ (v1 = .slice (some (h.n, 0)) ps.length (.opn 8) ∧ h1.get h.n = some (.cells (pcells ps) false) ∧ h1.n = h.n + 1)) := by
  rcases hc with ⟨e1, e2, e3⟩ | ⟨_, e2, e3, e4, e5, e6⟩
  · subst e3
    exact ⟨Nat.le_refl _, fun _ _ => rfl, Nat.le_refl _, .inl ⟨e1, e2⟩⟩
  · simp only [Hp.n_withLow, Hp.low_withLow, Hp.get_withLow] at e2 e3 e4 e5 e6
    exact ⟨by omega, e5, by omega, .inr ⟨e2, e4, e3⟩⟩
 obtain ⟨k1, k2, k3, k4⟩ := g1
 (have fct := Fj @Fs.over.eq_1 (Fj @op_litS (Fj @op_append fsReps)); (repeat' first | refine A_walk ?_ | exact trivial | refine GuardK_split (fun hb => ?_) (fun hb => ?_) | refine CondK_split (fun hb => ?_) (fun hb => ?_) | refine CodeK_regionD _ ?_ | refine DGuardK_split (fun hb => ?_) (fun hb => ?_)); all_goals try clear fct)
 refine ResK_ex (append_copy (b := h.n) (ps := ps) (qs := [mark, mark]) ?_ ?_ (by simp) (by simpa using hl)) fun v2 h2 ⟨e1, e2, e3, e4⟩ => ?_
 · rcases k4 with ⟨a1, a2⟩ | ⟨a1, a2, a3⟩
   · exact .inl ⟨a1, a2⟩
   · refine .inr ⟨a1, ?_⟩
     rw [Hp.get_push_ne _ _ _ (by omega)]
     exact a2
 · refine parts_block (qs := []) (ro := false) ?_ ?_ rfl (by decide)
   · rw [Hp.get_push_self]; rfl
   · simp
 · simp only [Hp.n_push, Hp.low_push] at e2 e3 e4
   have hold : ∀ b, b < h.n → h2.get b = h.get b := fun b hb => by
    rw [e3 b (by omega) (by omega), Hp.get_push_ne _ _ _ (by omega), k2 b hb]
   have c1 := same_spec ho2 (h := h2) (hf.mono (by omega) hold) e1
   (have fct := Fj @Fs.over.eq_1 @c1; (repeat' first | refine A_walk ?_ | exact trivial | refine GuardK_split (fun hb => ?_) (fun hb => ?_) | refine CondK_split (fun hb => ?_) (fun hb => ?_) | refine CodeK_regionD _ ?_ | refine DGuardK_split (fun hb => ?_) (fun hb => ?_)); all_goals try clear fct)
   omega
structure Crd where
 name : List UInt8
 suit : Int
 kind : Int
 cost : Int
 power : Int
 health : Int
 traits : Int
 token : Bool
 deriving DecidableEq
def Crd.cells (c : Crd) (v : AV) : List AV := [.str c.name, .int .u8 c.suit, .int .u8 c.kind, .int .i64 c.cost, .int .i64 c.power, .int .i64 c.health, .int .u16 c.traits, .bool c.token, v]
theorem parts_lent {h h' : AH} {ps : List Prt} {v : AV} (hl : Lent h ps v h') (hb : ps.length ≤ 1152921504606846900) : Parts h' v (ps ++ [mark, mark]) ∧ Parts h' (.slice (some (h.n, 0)) ps.length (.exact (ps.length + 2))) ps := by
 obtain ⟨rfl, h1, h2, _, _⟩ := hl
 exact ⟨parts_block (qs := []) (by rw [List.append_nil]; exact h2) h1 (by simp) (by simp; omega), parts_block h2 h1 rfl (by omega)⟩
def LentC (h : AH) (c : Crd) (ps : List Prt) (v : AV) (h' : AH) : Prop :=
 ∃ s1 s2, v = .tuple [.agg (c.cells s1), s2] ∧ Parts h' s1 ps ∧ Parts h' s2 (ps ++ [mark, mark]) ∧ h.n ≤ h'.n ∧ (∀ b, b < h.n → h'.get b = h.get b) ∧ min h.low h.n ≤ h'.low ∧
  s1 = .slice (some (h.n + 2, 0)) ps.length (.exact (ps.length + 2)) ∧ s2 = .slice (some (h.n + 2, 0)) (ps.length + 2) (.exact (ps.length + 2)) ∧ h.n + 2 < h'.n ∧ h'.get (h.n + 2) = some (.cells (pcells (ps ++ [mark, mark])) false)
theorem lentcard_spec (ho : orc 7 = none) (ho2 : orc 35 = none) {c : Crd} {v : AV} {ps : List Prt} {h : AH} (hp : Parts h v ps) (hl : ps.length * 40 ≤ 140737488355328) :
    ∃ v' h', acall orc T 7 [.agg (c.cells v)] h = some (v', h') ∧ LentC h c ps v' h' := by
 refine acall_facts ho tbl7 ?_
 obtain ⟨a, cc, rfl, hle, hpa⟩ := id hp
 dsimp only [Zm, Zl, Zf, Ze, Zb, Zo, Zn, Zg, List.length, List.replicate, List.append, List.cons_append, List.nil_append, Nat.reduceAdd, Nat.reduceSub, Crd.cells]
 (have fct := @Fs.over.eq_1; (repeat' first | refine A_walk ?_ | exact trivial | refine GuardK_split (fun hb => ?_) (fun hb => ?_) | refine CondK_split (fun hb => ?_) (fun hb => ?_) | refine CodeK_regionD _ ?_ | refine DGuardK_split (fun hb => ?_) (fun hb => ?_)); all_goals try clear fct)
 refine ResK_ex (lent_spec ho2 (ps := ps) (hp.mono (by simp; omega) fun b hb => ?_) hl) fun v1 h1 hL => ?_
 · have n1 : ¬ b = h.n := by omega
   have n2 : ¬ b = h.n + 1 := by omega
   simp only [Hp.get_push, Hp.n_push, Hp.n_withLow, n1, n2, if_false, Hp.get_withLow]
 · obtain ⟨p1, p2⟩ := parts_lent hL (by omega)
   obtain ⟨rfl, e1, e2, e3, e4⟩ := hL
   simp only [Hp.n_push, Hp.n_withLow, Hp.low_push, Hp.low_withLow, Nat.add_assoc, Nat.reduceAdd] at e1 e3 e4 p1 p2
   have q0 : h1.get h.n = some (.cells (c.cells (.slice a ps.length cc)) false) := by
    rw [e3 h.n (by omega)]
    have n1 : ¬ h.n = h.n + 1 := by omega
    simp only [Hp.get_push, Hp.n_push, Hp.n_withLow, n1, if_false, if_true, Crd.cells]
   have q1 : h1.get (h.n + 1) = some (.cells [.str [], .int .u8 0, .int .u8 0, .int .i64 0, .int .i64 0, .int .i64 0, .int .u16 0, .bool false, .slice none 0 (.exact 0)] false) := by
    rw [e3 (h.n + 1) (by omega)]
    simp only [Hp.get_push, Hp.n_push, Hp.n_withLow, if_true]
   dsimp only [Crd.cells] at q0
   simp only [Hp.n_push, Hp.n_withLow, Nat.add_assoc, Nat.reduceAdd]
   have s1 : ∀ (tm : List AV) (hx : AH), tm.getD 11 AV.undef = .int .i64 (ps.length : Int) → slcVV tm 8 (.slice (some (h.n + 2, 0)) (ps.length + 2) (.exact (ps.length + 2))) none (some (.t 11)) none hx =
       some (.slice (some (h.n + 2, 0)) ps.length (.exact (ps.length + 2)), hx) := fun tm hx hi => slcVV_hi (h := hx) hi (by omega) (by omega)
   (have fct := Fj @Fs.over.eq_1 (Fj @q0 (Fj @q1 (Fj @op_slcV (Fj @s1 @Option.some.injEq.{0})))); (repeat' first | refine A_walk ?_ | exact trivial | refine GuardK_split (fun hb => ?_) (fun hb => ?_) | refine CondK_split (fun hb => ?_) (fun hb => ?_) | refine CodeK_regionD _ ?_ | refine DGuardK_split (fun hb => ?_) (fun hb => ?_)); all_goals try clear fct)
   refine ⟨_, rfl, ?_⟩
   have hun : AV.under h.n (.tuple [.agg (c.cells (.slice (some (h.n + 2, 0)) ps.length (.exact (ps.length + 2)))), .slice (some (h.n + 2, 0)) (ps.length + 2) (.exact (ps.length + 2))]) = false := by
    simp [AV.under, AV.unders, Crd.cells]
   dsimp only [Crd.cells] at hun
   rw [settle_new hun]
   have hg : ∀ b, b ≠ h.n → b ≠ h.n + 1 → ∀ x y l, (((h1.set h.n x).set (h.n + 1) y).withLow l).get b = h1.get b := fun b g1 g2 x y l => by
    rw [Hp.get_withLow, Hp.get_set_ne _ _ _ _ g2, Hp.get_set_ne _ _ _ _ g1]
   simp only [Hp.n_push, Hp.n_withLow, Nat.add_assoc, Nat.reduceAdd] at e2
   refine ⟨_, _, rfl, ?_, ?_, ?_, fun b hb => ?_, ?_, rfl, rfl, ?_, ?_⟩
   · refine parts_block (ps := ps) (qs := [mark, mark]) (ro := false) ?_ ?_ rfl (by omega)
     · rw [hg _ (by omega) (by omega)]; exact e2
     · simp only [Hp.n_withLow, Hp.n_set]; omega
   · refine parts_block (ps := ps ++ [mark, mark]) (qs := []) (ro := false) ?_ ?_ (by simp) (by simp; omega)
     · rw [hg _ (by omega) (by omega), List.append_nil]; exact e2
     · simp only [Hp.n_withLow, Hp.n_set]; omega
   · simp only [Hp.n_withLow, Hp.n_set]; omega
   · rw [hg b (by omega) (by omega), e3 b (by omega)]
     have n1 : ¬ b = h.n := by omega
     have n2 : ¬ b = h.n + 1 := by omega
     simp only [Hp.get_push, Hp.n_push, Hp.n_withLow, n1, n2, if_false, Hp.get_withLow]
   · simp only [Hp.low_withLow, Hp.low_set]; omega
   · simp only [Hp.n_withLow, Hp.n_set]; omega
   · rw [hg _ (by omega) (by omega)]; exact e2
theorem crd_ne {c d : Crd} (h : ¬ c = d) : ¬ (c.name = d.name ∧ c.suit = d.suit ∧ c.kind = d.kind ∧ c.cost = d.cost ∧ c.power = d.power ∧ c.health = d.health ∧ c.traits = d.traits ∧ c.token = d.token) := by
 intro ⟨a1, a2, a3, a4, a5, a6, a7, a8⟩
 cases c; cases d
 simp_all
theorem samecard_spec (ho : orc 17 = none) (ho2 : orc 56 = none) {c d : Crd} {v u : AV} {ps qs : List Prt} {h : AH} (hp : Parts h v ps) (hq : Parts h u qs) :
    acall orc T 17 [.agg (c.cells v), .agg (d.cells u)] h = some (.bool (decide (ps = qs) && decide (c = d)), h) := by
 refine acall_sym ho tbl17 ?_
 obtain ⟨a, cc, rfl, _, _⟩ := id hp
 obtain ⟨a', cc', rfl, _, _⟩ := id hq
 have hext : ∀ (h2 : AH), h.n ≤ h2.n → (∀ b, b < h.n → h2.get b = h.get b) → acall orc T 56 [.slice a ps.length cc, .slice a' qs.length cc'] h2 = some (.bool (decide (ps = qs)), h2) :=
  fun h2 h3 h4 => same_spec ho2 (hp.mono h3 h4) (hq.mono h3 h4)
 have c1 := hext (((h.withLow h.n).push (.cells (c.cells (.slice a ps.length cc)) false)).push (.cells (d.cells (.slice a' qs.length cc')) false)) (by simp; omega) fun b hb => by
  have n1 : ¬ b = h.n := by omega
  have n2 : ¬ b = h.n + 1 := by omega
  simp only [Hp.get_push, Hp.n_push, Hp.n_withLow, n1, n2, if_false, Hp.get_withLow]
 clear hext
 generalize decide (ps = qs) = e at *
 dsimp only [Zm, Zl, Zf, Ze, Zb, Zo, Zn, Zg, List.length, List.replicate, List.append, List.cons_append, List.nil_append, Nat.reduceAdd, Nat.reduceSub, Crd.cells] at c1 ⊢
 by_cases hcd : c = d
 · subst hcd
   have n2 : decide (c = c) = true := by simp
   rw [n2]
   cases e <;> ((have fct := Fj @Fs.over.eq_1 (Fj @c1 fsAstr); (repeat' first | refine A_walk ?_ | exact trivial | refine GuardK_split (fun hb => ?_) (fun hb => ?_) | refine CondK_split (fun hb => ?_) (fun hb => ?_) | refine CodeK_regionD _ ?_ | refine DGuardK_split (fun hb => ?_) (fun hb => ?_)); all_goals try clear fct))
 · have n2 : decide (c = d) = false := by simp [hcd]
   have hne := crd_ne hcd
   rw [n2]
   cases e <;> ((have fct := Fj @Fs.over.eq_1 (Fj @c1 fsAstr); (repeat' first | refine A_walk ?_ | exact trivial | refine GuardK_split (fun hb => ?_) (fun hb => ?_) | refine CondK_split (fun hb => ?_) (fun hb => ?_) | refine CodeK_regionD _ ?_ | refine DGuardK_split (fun hb => ?_) (fun hb => ?_)); all_goals try clear fct))
   all_goals simp_all
theorem kept_ok (ps : List Prt) : decide (ps ++ [mark, mark] = ps ++ [mark, mark]) = true := by simp
end Go.Proofs.Cards
