/- Lists of parts in memory, and cards: held against each other, copied, lent, kept. -/
import Derived.Test.YtjmhjipacmlojaaGreatDoorFz05
import Derived.Test.YtjmhjipacmlojaaGreatDoorZcEfPlain
import Derived.Test.YtjmhjipacmlojaaGreatDoorFz05
namespace Go.Proofs.Cards
set_option maxRecDepth 100000
set_option maxHeartbeats 32000000
open Go Go.Fs
set_option linter.unusedSimpArgs false
set_option linter.unusedVariables false
noncomputable abbrev T := tbl Tryz.prog
variable {orc : Orc}
def cf18 : CF := ⟨68, [(.tmp 4)], (.seq (.region [Zo 2 (.box (.t 0)), Zo 3 (.box (.t 1)), Zo 4 (.mv (.c (.bool false)))]) (.seq (.region [Zf 6 0 2, Zl 7 6, Zf 8 0 3, Zl 9 8, Zb 10 .eql (.t 7) (.t 9), Zm 11 10, Zg 12 (.faddr 1 (.t 2)) 11 true, Zg 13 (.load none (.t 12)) 11 true, Zg 14 (.faddr 1 (.t 3)) 11 true, Zg 15 (.load none (.t 14)) 11 true, Zg 16 (.bin .eql .other (.t 13) (.t 15)) 11 true, Zo 17 (.pick (.t 11) (.t 16) (.c (.bool false))), Zm 18 17, Zg 19 (.faddr 2 (.t 2)) 18 true, Zg 20 (.load none (.t 19)) 18 true, Zg 21 (.faddr 2 (.t 3)) 18 true, Zg 22 (.load none (.t 21)) 18 true, Zg 23 (.bin .eql .other (.t 20) (.t 22)) 18 true, Zo 24 (.pick (.t 18) (.t 23) (.c (.bool false))), Zm 25 24, Zg 26 (.faddr 3 (.t 2)) 25 true, Zg 27 (.load none (.t 26)) 25 true, Zg 28 (.faddr 3 (.t 3)) 25 true, Zg 29 (.load none (.t 28)) 25 true, Zg 30 (.bin .eql .other (.t 27) (.t 29)) 25 true, Zo 31 (.pick (.t 25) (.t 30) (.c (.bool false))), Zm 32 31, Zg 33 (.faddr 4 (.t 2)) 32 true, Zg 34 (.load none (.t 33)) 32 true, Zg 35 (.faddr 4 (.t 3)) 32 true, Zg 36 (.load none (.t 35)) 32 true, Zg 37 (.bin .eql .other (.t 34) (.t 36)) 32 true, Zo 38 (.pick (.t 32) (.t 37) (.c (.bool false))), Zm 39 38, Zg 40 (.faddr 5 (.t 2)) 39 true, Zg 41 (.load none (.t 40)) 39 true, Zg 42 (.faddr 5 (.t 3)) 39 true, Zg 43 (.load none (.t 42)) 39 true, Zg 44 (.bin .eql .other (.t 41) (.t 43)) 39 true, Zo 45 (.pick (.t 39) (.t 44) (.c (.bool false))), Zm 5 45]) (.seq (.region [Zm 46 5, Zm 47 46, Zg 48 (.faddr 6 (.t 2)) 47 true, Zg 49 (.load none (.t 48)) 47 true, Zg 50 (.faddr 6 (.t 3)) 47 true, Zg 51 (.load none (.t 50)) 47 true, Zg 52 (.bin .eql .other (.t 49) (.t 51)) 47 true, Zo 53 (.pick (.t 47) (.t 52) (.c (.bool false))), Zm 54 53, Zg 55 (.faddr 7 (.t 2)) 54 true, Zg 56 (.load none (.t 55)) 54 true, Zg 57 (.faddr 7 (.t 3)) 54 true, Zg 58 (.load none (.t 57)) 54 true, Zg 59 (.bin .eql .scal (.t 56) (.t 58)) 54 true, Zo 60 (.pick (.t 54) (.t 59) (.c (.bool false))), Zm 61 60, Zg 62 (.faddr 8 (.t 2)) 61 true, Zg 63 (.load none (.t 62)) 61 true, Zg 64 (.faddr 8 (.t 3)) 61 true, Zg 65 (.load none (.t 64)) 61 true, Zg 66 (.call (.f 47) [(.t 63), (.t 65)]) 61 true, Zo 67 (.pick (.t 61) (.t 66) (.c (.bool false))), Zm 4 67]) .ret)))⟩
def cf47 : CF := ⟨26, [(.tmp 4)], (.seq (.region [Zo 4 (.mv (.c (.bool false)))]) (.seq (.seq (.region [Zm 6 0, Zo 7 (.lenV (.t 6)), Zm 8 1, Zo 9 (.lenV (.t 8)), Zb 10 .neq (.t 7) (.t 9)]) (.cond (.t 10) (.seq (.region [Zo 4 (.mv (.c (.bool false)))]) .ret) .skip)) (.seq (.seq (.region [Zo 5 (.mv (.c (.int .i64 0)))]) (.block 0 (.loop (.seq (.seq (.region [Zm 11 5, Zm 12 0, Zo 13 (.lenV (.t 12)), Zb 14 .lss (.t 11) (.t 13)]) (.cond (.t 14) .skip (.exit 0))) (.seq (.block 1 (.seq (.regionD [⟨Zm 17 0, 0, 0, false⟩, ⟨Zm 18 5, 0, 0, false⟩, ⟨Zo 19 (.iaddrS 8 (.t 17) (.t 18)), 0, 0, false⟩, ⟨Zo 20 (.load (some 8) (.t 19)), 0, 0, false⟩, ⟨Zm 21 1, 0, 0, false⟩, ⟨Zm 22 5, 0, 0, false⟩, ⟨Zo 23 (.iaddrS 8 (.t 21) (.t 22)), 0, 0, false⟩, ⟨Zo 24 (.load (some 8) (.t 23)), 0, 0, false⟩, ⟨Zo 25 (.bin .neq (.agg 8 [(0, .i), (1, .i), (2, .i), (3, .i), (4, .i), (5, .i), (6, .i), (7, .s)]) (.t 20) (.t 24)), 0, 0, false⟩]) (.cond (.t 25) (.seq (.region [Zo 4 (.mv (.c (.bool false)))]) .ret) .skip))) (.region [Zm 15 5, Zb 16 .add (.t 15) (.c (.int .i64 1)), Zm 5 16])))))) (.seq (.region [Zo 4 (.mv (.c (.bool true)))]) .ret))))⟩
theorem tbl18 : tbl Tryz.prog 18 = some cf18 := by kernel_rfl
theorem tbl47 : tbl Tryz.prog 47 = some cf47 := by kernel_rfl
structure Prt where
 a : Int
 b : Int
 c : Int
 d : Int
 e : Int
 f : Int
 g : Int
 s : List UInt8
 deriving DecidableEq
def Prt.cells (p : Prt) : List AV := [.int .u8 p.a, .int .u8 p.b, .int .u8 p.c, .int .i64 p.d, .int .u8 p.e, .int .u8 p.f, .int .u8 p.g, .str p.s]
def Parts (h : AH) (v : AV) (ps : List Prt) : Prop :=
 ∃ (a : Option (Nat × Nat)) (c : Cap), v = .slice a ps.length c ∧ ps.length ≤ 1152921504606846976 ∧
  (ps = [] ∨ ∃ (b : Nat) (o : Nat) (cells : List AV) (ro : Bool), a = some (b, o) ∧ b < h.n ∧ h.get b = some (.cells cells ro) ∧ ∀ (i : Nat) (p : Prt), ps[i]? = some p → cut cells (o + i * 8) 8 = some p.cells)
theorem Parts.mono {h h' : AH} {v : AV} {ps : List Prt} (hi : Parts h v ps) (hn : h.n ≤ h'.n) (ho : ∀ b, b < h.n → h'.get b = h.get b) : Parts h' v ps := by
 obtain ⟨a, c, h1, h2, h3⟩ := hi
 refine ⟨a, c, h1, h2, ?_⟩
 rcases h3 with h3 | ⟨b, o, cells, ro, g1, g2, g3, g4⟩
 · exact .inl h3
 · exact .inr ⟨b, o, cells, ro, g1, by omega, by rw [ho b g2]; exact g3, g4⟩
def partEq (p q : Prt) : Bool := (p.a == q.a && (p.b == q.b && (p.c == q.c && (p.d == q.d && (p.e == q.e && (p.f == q.f && (p.g == q.g && (decide (p.s = q.s) && true))))))))
theorem partEq_iff (p q : Prt) : partEq p q = true ↔ p = q := by
 cases p; cases q
 simp [partEq]
theorem cut_parts {cells : List AV} {o n : Nat} {xs : List AV} (h : cut cells o n = some xs) : o + n ≤ cells.length ∧ (cells.drop o).take n = xs := by
 unfold cut at h
 split at h
 · rename_i hle; exact ⟨hle, by simpa using h⟩
 · cases h
theorem take_step {α : Type} {xs ys : List α} {i : Nat} {x y : α} (hx : xs[i]? = some x) (hy : ys[i]? = some y) (h : xs.take i = ys.take i) (e : x = y) : xs.take (i + 1) = ys.take (i + 1) := by
 rw [List.take_add_one, List.take_add_one, hx, hy, h, e]
structure InvS (h0 : AH) (v u : AV) (ps qs : List Prt) (n : Nat) (tm : List AV) (h : AH) : Prop where
 len : tm.length = 26
 t0 : tm.getD 0 AV.undef = v
 t1 : tm.getD 1 AV.undef = u
 st : ∃ i : Nat, n = ps.length - i ∧ i ≤ ps.length ∧ tm.getD 5 AV.undef = .int .i64 i ∧ ps.take i = qs.take i
 heap : h = h0.withLow h0.n
theorem same_spec (ho : orc 47 = none) {ps qs : List Prt} {v u : AV} {h : AH} (hp : Parts h v ps) (hq : Parts h u qs) : acall orc T 47 [v, u] h = some (.bool (decide (ps = qs)), h) := by
 refine acall_sym ho tbl47 ?_
 obtain ⟨a, c, rfl, hl, hpa⟩ := hp
 obtain ⟨a', c', rfl, hl', hqa⟩ := hq
 refine GD ?_
 by_cases hlen : qs.length = ps.length
 case neg =>
  have hne : ¬ ps = qs := fun e => hlen (by rw [e])
  have n1 : ((ps.length : Int) != (qs.length : Int)) = true := by simp; omega
  have n2 : decide (ps = qs) = false := by simp [hne]
  rw [n2]
  (have fct := Fj @Fs.over.eq_1 @n1; (repeat' first | refine A_walk ?_ | exact trivial | refine GuardK_split (fun hb => ?_) (fun hb => ?_) | refine CondK_split (fun hb => ?_) (fun hb => ?_) | refine CodeK_regionD _ ?_ | refine DGuardK_split (fun hb => ?_) (fun hb => ?_)); all_goals try clear fct)
 case pos =>
  rw [hlen]
  generalize hm : ps.length = m at *
  (have fct := Fj @Fs.over.eq_1 @bne_self_eq_false.{0}; (repeat' first | refine A_walk ?_ | exact trivial | refine GuardK_split (fun hb => ?_) (fun hb => ?_) | refine CondK_split (fun hb => ?_) (fun hb => ?_) | refine CodeK_regionD _ ?_ | refine DGuardK_split (fun hb => ?_) (fun hb => ?_)); all_goals try clear fct)
  refine CodeK_loop (InvS h (.slice a m c) (.slice a' m c') ps qs) m ?_ ?_
  · exact ⟨rfl, rfl, rfl, ⟨0, by omega, by omega, rfl, rfl⟩, rfl⟩
  · intro n tm h' I
    obtain ⟨i, hn, hi, e5, htake⟩ := I.st
    have el := I.len
    have e0 := I.t0
    have e1 := I.t1
    have hh := I.heap
    subst hh
    by_cases hlt : i < m
    case neg =>
     have l1 : decide ((i : Int) < (m : Int)) = false := by simp; omega
     have hall : ps = qs := by
      have h1 : ps.take i = ps := List.take_of_length_le (by omega)
      have h2 : qs.take i = qs := List.take_of_length_le (by omega)
      rw [← h1, ← h2, htake]
     have n2 : decide (ps = qs) = true := by simp [hall]
     rw [n2]
     (have fct := Fj @Fs.over.eq_1 (Fj @el (Fj @e0 (Fj @e1 (Fj @e5 @l1)))); (repeat' first | refine A_walk ?_ | exact trivial | refine GuardK_split (fun hb => ?_) (fun hb => ?_) | refine CondK_split (fun hb => ?_) (fun hb => ?_) | refine CodeK_regionD _ ?_ | refine DGuardK_split (fun hb => ?_) (fun hb => ?_)); all_goals try clear fct)
    case pos =>
     have l1 : decide ((i : Int) < (m : Int)) = true := by simp; omega
     have hpi := List.getElem?_eq_getElem (l := ps) (i := i) (by omega)
     have hqi := List.getElem?_eq_getElem (l := qs) (i := i) (by omega)
     generalize ps[i]'(by omega) = p at hpi
     generalize qs[i]'(by omega) = q at hqi
     rcases hpa with rfl | ⟨b, o, cells, ro, rfl, hb, hg, hc⟩
     · simp at hm; omega
     rcases hqa with rfl | ⟨b', o', cells', ro', rfl, hb', hg', hc'⟩
     · simp at hlen; omega
     have k1 := hc i p hpi
     have k2 := hc' i q hqi
     have w1 : IntKind.wrap .i64 ((i : Int) + 1) = ((i + 1 : Nat) : Int) := by
      rw [wrap_i64 (by omega) (by omega)]
      omega
     obtain ⟨x1, y1⟩ := cut_parts k1
     obtain ⟨x2, y2⟩ := cut_parts k2
     dsimp only [Prt.cells] at y1 y2
     rw [Nat.add_assoc] at x1 x2
     have hee := partEq_iff p q
     unfold partEq at hee
     cases hpq : (p.a == q.a && (p.b == q.b && (p.c == q.c && (p.d == q.d && (p.e == q.e && (p.f == q.f && (p.g == q.g && (decide (p.s = q.s) && true)))))))) with
     | true =>
       have e : p = q := hee.1 hpq
       repeat' first | (simp only [opsB, ctlB, Nat.reduceEqDiff, Nat.reduceBEq, Nat.reduceBNe, Int.reduceBEq, Int.reduceBNe, Int.reduceLT, Int.reduceLE, Int.reduceEq, CO.quiet, CO.reads, AV.one, AV.cells, CA.ev, abin, aint, aun, isShift, readVar, readCell, readCells, writeCells, fillA, reduceIte, Nat.reduceAdd, Nat.reduceSub, Nat.reduceLT, Nat.reduceLeDiff, resAll, resOne, AV.under, AV.unders, cut, put, DoneK, Kept, KeptOne, closeOp, Fs.over, el, e0, e1, e5, l1, hg, hg', x1, x2, y1, y2, w1, hpq, iaddrV_nat hlt, fsTm, Nat.reduceBEq, Nat.reduceLT, *]) | (refine GuardK_split (fun hb => ?_) (fun hb => ?_)) | (refine CondK_split (fun hb => ?_) (fun hb => ?_)) | (refine CodeK_regionD _ ?_) | (refine DGuardK_split (fun hb => ?_) (fun hb => ?_))
       refine ⟨ps.length - (i + 1), by omega, ?_⟩
       refine ⟨by simp only [List.length_set, el], by simp only [fsTm, Nat.reduceBEq, Nat.reduceLT, el, e0], by simp only [fsTm, Nat.reduceBEq, Nat.reduceLT, el, e1], ⟨i + 1, rfl, by omega, by simp only [fsTm, Nat.reduceBEq, Nat.reduceLT, el], ?_⟩, rfl⟩
       exact take_step hpi hqi htake e
     | false =>
       have e : ¬ ps = qs := fun e0 => by
        rw [e0, hqi] at hpi
        have : q = p := by simpa using hpi
        rw [hee.2 this.symm] at hpq
        cases hpq
       have n2 : decide (ps = qs) = false := by simp [e]
       rw [n2]
       repeat' first | (simp only [opsB, ctlB, Nat.reduceEqDiff, Nat.reduceBEq, Nat.reduceBNe, Int.reduceBEq, Int.reduceBNe, Int.reduceLT, Int.reduceLE, Int.reduceEq, CO.quiet, CO.reads, AV.one, AV.cells, CA.ev, abin, aint, aun, isShift, readVar, readCell, readCells, writeCells, fillA, reduceIte, Nat.reduceAdd, Nat.reduceSub, Nat.reduceLT, Nat.reduceLeDiff, resAll, resOne, AV.under, AV.unders, cut, put, DoneK, Kept, KeptOne, closeOp, Fs.over, el, e0, e1, e5, l1, hg, hg', x1, x2, y1, y2, w1, hpq, iaddrV_nat hlt, fsTm, Nat.reduceBEq, Nat.reduceLT, *]) | (refine GuardK_split (fun hb => ?_) (fun hb => ?_)) | (refine CondK_split (fun hb => ?_) (fun hb => ?_)) | (refine CodeK_regionD _ ?_) | (refine DGuardK_split (fun hb => ?_) (fun hb => ?_))
       exfalso
       simp_all
def pcells (ps : List Prt) : List AV := ps.flatMap Prt.cells
theorem cut_of {cells : List AV} {o n : Nat} {xs : List AV} (h1 : o + n ≤ cells.length) (h2 : (cells.drop o).take n = xs) : cut cells o n = some xs := by
 unfold cut; rw [if_pos h1, h2]
theorem cut_all {cells : List AV} : ∀ (ps : List Prt) (o : Nat), ps ≠ [] → (∀ (i : Nat) (p : Prt), ps[i]? = some p → cut cells (o + i * 8) 8 = some p.cells) → cut cells o (ps.length * 8) = some (pcells ps)
 | [], _, h, _ => absurd rfl h
 | p :: ps, o, _, hc => by
   obtain ⟨h1, h2⟩ := cut_parts (hc 0 p rfl)
   rw [Nat.zero_mul, Nat.add_zero] at h1 h2
   by_cases hne : ps = []
   · subst hne
     exact cut_of (by simpa using h1) (by simpa [pcells] using h2)
   · have ih := cut_all ps (o + 8) hne fun i q hq => by
       have := hc (i + 1) q (by simpa using hq)
       rw [show o + (i + 1) * 8 = o + 8 + i * 8 by omega] at this
       exact this
     obtain ⟨h3, h4⟩ := cut_parts ih
     refine cut_of (by simp only [List.length_cons]; omega) ?_
     simp only [List.length_cons]
     rw [show (ps.length + 1) * 8 = 8 + ps.length * 8 by omega, List.take_add, h2, List.drop_drop, h4]
     simp [pcells]
theorem elems_parts {h : AH} {v : AV} {ps : List Prt} (hp : Parts h v ps) : elemsOf 8 h v = some (pcells ps) ∧ lenOf v = some ps.length := by
 obtain ⟨a, c, rfl, _, h3⟩ := hp
 refine ⟨?_, rfl⟩
 by_cases hne : ps = []
 · subst hne; rfl
 · rcases h3 with h3 | ⟨b, o, cells, ro, rfl, hb, hg, hc⟩
   · exact absurd h3 hne
   · have hz : ¬ ps.length = 0 := by simpa using hne
     simp only [elemsOf, if_neg hz, readCells, hg]
     exact cut_all ps o hne hc
theorem append_nil {h : AH} {x : AV} {ps : List Prt} (hp : Parts h x ps) (hl : ps.length * 40 ≤ 140737488355328) :
    appendRun 8 40 (.slice none 0 (.exact 0)) x h = if ps.length = 0 then some (.slice none 0 (.exact 0), h) else some (.slice (some (h.n, 0)) ps.length (.opn 8), h.push (.cells (pcells ps) false)) := by
 obtain ⟨h1, h2⟩ := elems_parts hp
 unfold appendRun
 rw [h2, Option.bind_some, h1, Option.bind_some]
 unfold appendCore
 simp only [elemsOf, if_true, Option.bind_some, Nat.zero_add, List.nil_append]
 by_cases hz : ps.length = 0
 · rw [if_pos (by omega), if_pos hz]
 · rw [if_neg (by omega), if_neg hz, if_pos ⟨by omega, by omega⟩]
structure Crd where
 name : List UInt8
 suit : Int
 kind : Int
 cost : Int
 power : Int
 health : Int
 traits : Int
 token : Bool
 deriving DecidableEq
def Crd.cells (c : Crd) (v : AV) : List AV := [.str c.name, .int .u8 c.suit, .int .u8 c.kind, .int .i64 c.cost, .int .i64 c.power, .int .i64 c.health, .int .u16 c.traits, .bool c.token, v]
theorem crd_ne {c d : Crd} (h : ¬ c = d) : ¬ (c.name = d.name ∧ c.suit = d.suit ∧ c.kind = d.kind ∧ c.cost = d.cost ∧ c.power = d.power ∧ c.health = d.health ∧ c.traits = d.traits ∧ c.token = d.token) := by
 intro ⟨a1, a2, a3, a4, a5, a6, a7, a8⟩
 cases c; cases d
 simp_all
theorem samecard_spec (ho : orc 18 = none) (ho2 : orc 47 = none) {c d : Crd} {v u : AV} {ps qs : List Prt} {h : AH} (hp : Parts h v ps) (hq : Parts h u qs) :
    acall orc T 18 [.agg (c.cells v), .agg (d.cells u)] h = some (.bool (decide (ps = qs) && decide (c = d)), h) := by
 refine acall_sym ho tbl18 ?_
 obtain ⟨a, cc, rfl, _, _⟩ := id hp
 obtain ⟨a', cc', rfl, _, _⟩ := id hq
 have hext : ∀ (h2 : AH), h.n ≤ h2.n → (∀ b, b < h.n → h2.get b = h.get b) → acall orc T 47 [.slice a ps.length cc, .slice a' qs.length cc'] h2 = some (.bool (decide (ps = qs)), h2) :=
  fun h2 h3 h4 => same_spec ho2 (hp.mono h3 h4) (hq.mono h3 h4)
 have c1 := hext (((h.withLow h.n).push (.cells (c.cells (.slice a ps.length cc)) false)).push (.cells (d.cells (.slice a' qs.length cc')) false)) (by simp; omega) fun b hb => by
  have n1 : ¬ b = h.n := by omega
  have n2 : ¬ b = h.n + 1 := by omega
  simp only [Hp.get_push, Hp.n_push, Hp.n_withLow, n1, n2, if_false, Hp.get_withLow]
 clear hext
 generalize decide (ps = qs) = e at *
 dsimp only [Zm, Zl, Zf, Ze, Zb, Zo, Zn, Zg, List.length, List.replicate, List.append, List.cons_append, List.nil_append, Nat.reduceAdd, Nat.reduceSub, Crd.cells] at c1 ⊢
 by_cases hcd : c = d
 · subst hcd
   have n2 : decide (c = c) = true := by simp
   rw [n2]
   cases e <;> ((have fct := Fj @Fs.over.eq_1 (Fj @c1 fsAstr); (repeat' first | refine A_walk ?_ | exact trivial | refine GuardK_split (fun hb => ?_) (fun hb => ?_) | refine CondK_split (fun hb => ?_) (fun hb => ?_) | refine CodeK_regionD _ ?_ | refine DGuardK_split (fun hb => ?_) (fun hb => ?_)); all_goals try clear fct))
 · have n2 : decide (c = d) = false := by simp [hcd]
   have hne := crd_ne hcd
   rw [n2]
   cases e <;> ((have fct := Fj @Fs.over.eq_1 (Fj @c1 fsAstr); (repeat' first | refine A_walk ?_ | exact trivial | refine GuardK_split (fun hb => ?_) (fun hb => ?_) | refine CondK_split (fun hb => ?_) (fun hb => ?_) | refine CodeK_regionD _ ?_ | refine DGuardK_split (fun hb => ?_) (fun hb => ?_)); all_goals try clear fct))
   all_goals simp_all
end Go.Proofs.Cards
