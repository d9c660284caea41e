/- Lists of parts: two are held against each other. -/
import Derived.Test.YtnhkllnggpncfaaCardCf
import Derived.Test.YtnhkllnggpncfaaFsSym
import Derived.Test.YtnhkllnggpncfaaFsBits
namespace Go.Proofs.Cards
open Go Go.Fs
set_option linter.unusedSimpArgs false
noncomputable abbrev T := tbl Try.prog
variable {orc : Orc}

structure Prt where
  a : Int
  b : Int
  c : Int
  d : Int
  e : Int
  f : Int
  g : Int
  s : List UInt8
  deriving DecidableEq

def Prt.cells (p : Prt) : List AV := [.int .u8 p.a, .int .u8 p.b, .int .u8 p.c, .int .i64 p.d, .int .u8 p.e, .int .u8 p.f, .int .u8 p.g, .str p.s]

/-- A slice that holds these parts. -/
def Parts (h : AH) (v : AV) (ps : List Prt) : Prop :=
  ∃ (a : Option (Nat × Nat)) (c : Cap), v = .slice a ps.length c ∧ ps.length ≤ 1152921504606846976 ∧
    (ps = [] ∨ ∃ (b : Nat) (o : Nat) (cells : List AV) (ro : Bool), a = some (b, o) ∧ b < h.n ∧ h.get b = some (.cells cells ro) ∧ ∀ (i : Nat) (p : Prt), ps[i]? = some p → cut cells (o + i * 8) 8 = some p.cells)

theorem Parts.mono {h h' : AH} {v : AV} {ps : List Prt} (hi : Parts h v ps) (hn : h.n ≤ h'.n) (ho : ∀ b, b < h.n → h'.get b = h.get b) : Parts h' v ps := by
  obtain ⟨a, c, h1, h2, h3⟩ := hi
  refine ⟨a, c, h1, h2, ?_⟩
  rcases h3 with h3 | ⟨b, o, cells, ro, g1, g2, g3, g4⟩
  · exact .inl h3
  · exact .inr ⟨b, o, cells, ro, g1, by omega, by rw [ho b g2]; exact g3, g4⟩

def partEq (p q : Prt) : Bool := (p.a == q.a && (p.b == q.b && (p.c == q.c && (p.d == q.d && (p.e == q.e && (p.f == q.f && (p.g == q.g && (decide (p.s = q.s) && true))))))))

theorem partEq_iff (p q : Prt) : partEq p q = true ↔ p = q := by
  cases p; cases q
  simp [partEq]

theorem cut_parts {cells : List AV} {o n : Nat} {xs : List AV} (h : cut cells o n = some xs) : o + n ≤ cells.length ∧ (cells.drop o).take n = xs := by
  unfold cut at h
  split at h
  · rename_i hle; exact ⟨hle, by simpa using h⟩
  · cases h

theorem take_step {α : Type} {xs ys : List α} {i : Nat} {x y : α} (hx : xs[i]? = some x) (hy : ys[i]? = some y) (h : xs.take i = ys.take i) (e : x = y) : xs.take (i + 1) = ys.take (i + 1) := by
  rw [List.take_add_one, List.take_add_one, hx, hy, h, e]

structure InvS (h0 : AH) (v u : AV) (ps qs : List Prt) (n : Nat) (tm : List AV) (h : AH) : Prop where
  len : tm.length = 26
  t0 : tm.getD 0 AV.undef = v
  t1 : tm.getD 1 AV.undef = u
  st : ∃ i : Nat, n = ps.length - i ∧ i ≤ ps.length ∧ tm.getD 5 AV.undef = .int .i64 i ∧ ps.take i = qs.take i
  heap : h = h0.withLow h0.n

set_option maxRecDepth 100000 in
set_option maxHeartbeats 4000000 in
theorem same_spec (ho : orc 70 = none) {ps qs : List Prt} {v u : AV} {h : AH} (hp : Parts h v ps) (hq : Parts h u qs) : acall orc T 70 [v, u] h = some (.bool (decide (ps = qs)), h) := by
  refine acall_sym ho tbl70 ?_
  obtain ⟨a, c, rfl, hl, hpa⟩ := hp
  obtain ⟨a', c', rfl, hl', hqa⟩ := hq
  dsimp only [List.length, List.replicate, List.append, List.cons_append, List.nil_append, Nat.reduceAdd, Nat.reduceSub]
  by_cases hlen : qs.length = ps.length
  case neg =>
    have hne : ¬ ps = qs := fun e => hlen (by rw [e])
    have n1 : ((ps.length : Int) != (qs.length : Int)) = true := by simp; omega
    have n2 : decide (ps = qs) = false := by simp [hne]
    rw [n2]
    repeat' first | (simp only [op_lenS, lenSV_str, op_lenV, lenV_slice, op_toInt, toIntV_int, op_iaddrS, RetK_inv, RetK_inv_exit, RetK_inv_ret, Nat.add_assoc, Nat.reduceEqDiff, Nat.reduceBEq, Nat.reduceBNe, Nat.le_min, Nat.le_add_right, Nat.min_self, Int.reduceBEq, Int.reduceBNe, Int.reduceLT, Int.reduceLE, Int.reduceEq, beq_self_eq_true, bne_self_eq_false, Bool.not_true, Bool.not_false, decide_true, decide_false, decide_eq_true_eq, Bool.and_eq_true, List.mapM_cons, List.mapM_nil, Option.bind_eq_bind, Option.pure_def, aeqK_agg, aeqK_scal, leavesK_nil, leavesK_cons, leafK_i, leafK_b, leafK_s, DrawK_nil, DrawK_cons, DrawK_guard, DResK_some, DGuardK_tt, DGuardK_ff, DGuardK_tf, DGuardK_ft, DGuardK_u, kept_load, Kept, KeptOne, closeOp, CO.quiet, CO.reads, CodeK_seq, CodeK_region, CodeK_skip, CodeK_ret, CodeK_exit, CodeK_cond, CodeK_block, CondK_true, CondK_false, RunK_cons, RunK_nil, RunK_guard, GuardK_tt, GuardK_ff, GuardK_tf, GuardK_ft, GuardK_u, ResK_some, RetK_nil, RetK_seq, RetK_seq_exit, RetK_seq_ret, RetK_block, RetK_block_ret, RetK_block_exit, RetK_block_exit_ne, op_mv, op_un, op_bin, op_load, loadV_ptr, op_faddr, faddrV_ptr, op_pick, pickV_true, pickV_false, pickV_bool, pickV_same, op_box, boxV_agg, op_call, op_build, op_ext, op_alloc, op_store, storeV_ptr, List.all_cons, List.all_nil, AV.one, AV.cells, Bool.and_self, Bool.and_true, Bool.true_and, put, CA.ev, List.set_cons_zero, List.set_cons_succ, List.getD_cons_zero, List.getD_cons_succ, abin, aint, aun, isShift, Option.map_some, Option.bind_some, List.map_cons, List.map_nil, Hp.n_withLow, Hp.n_push, Hp.n_set, Hp.low_withLow, Hp.low_push, Hp.low_set, Hp.get_push, Hp.get_set, Hp.get_withLow, readVar, readCell, readCells, writeCells, over, cut, fillA, Bool.false_eq_true, if_false, if_true, reduceIte, List.getElem?_cons_zero, List.getElem?_cons_succ, Nat.zero_add, Nat.add_zero, Nat.reduceAdd, Nat.reduceSub, Nat.reduceLT, Nat.reduceLeDiff, Nat.reduceEqDiff, List.length_cons, List.length_nil, List.take_succ_cons, List.take_zero, List.drop_zero, List.drop_succ_cons, List.cons_append, List.nil_append, List.append_nil, DoneK, resAll, resOne, AV.under, AV.unders, and_true, true_and, and_self, or_true, true_or, cond_true, cond_false, Nat.le_refl, Nat.add_eq_left, Nat.left_eq_add, Nat.add_right_cancel_iff, Nat.add_left_cancel_iff, n1, *]) | (refine GuardK_split (fun hb => ?_) (fun hb => ?_)) | (refine CondK_split (fun hb => ?_) (fun hb => ?_)) | (refine CodeK_regionD _ ?_) | (refine DGuardK_split (fun hb => ?_) (fun hb => ?_))
  case pos =>
    rw [hlen]
    generalize hm : ps.length = m at *
    repeat' first | (simp only [op_lenS, lenSV_str, op_lenV, lenV_slice, op_toInt, toIntV_int, op_iaddrS, RetK_inv, RetK_inv_exit, RetK_inv_ret, Nat.add_assoc, Nat.reduceEqDiff, Nat.reduceBEq, Nat.reduceBNe, Nat.le_min, Nat.le_add_right, Nat.min_self, Int.reduceBEq, Int.reduceBNe, Int.reduceLT, Int.reduceLE, Int.reduceEq, beq_self_eq_true, bne_self_eq_false, Bool.not_true, Bool.not_false, decide_true, decide_false, decide_eq_true_eq, Bool.and_eq_true, List.mapM_cons, List.mapM_nil, Option.bind_eq_bind, Option.pure_def, aeqK_agg, aeqK_scal, leavesK_nil, leavesK_cons, leafK_i, leafK_b, leafK_s, DrawK_nil, DrawK_cons, DrawK_guard, DResK_some, DGuardK_tt, DGuardK_ff, DGuardK_tf, DGuardK_ft, DGuardK_u, kept_load, Kept, KeptOne, closeOp, CO.quiet, CO.reads, CodeK_seq, CodeK_region, CodeK_skip, CodeK_ret, CodeK_exit, CodeK_cond, CodeK_block, CondK_true, CondK_false, RunK_cons, RunK_nil, RunK_guard, GuardK_tt, GuardK_ff, GuardK_tf, GuardK_ft, GuardK_u, ResK_some, RetK_nil, RetK_seq, RetK_seq_exit, RetK_seq_ret, RetK_block, RetK_block_ret, RetK_block_exit, RetK_block_exit_ne, op_mv, op_un, op_bin, op_load, loadV_ptr, op_faddr, faddrV_ptr, op_pick, pickV_true, pickV_false, pickV_bool, pickV_same, op_box, boxV_agg, op_call, op_build, op_ext, op_alloc, op_store, storeV_ptr, List.all_cons, List.all_nil, AV.one, AV.cells, Bool.and_self, Bool.and_true, Bool.true_and, put, CA.ev, List.set_cons_zero, List.set_cons_succ, List.getD_cons_zero, List.getD_cons_succ, abin, aint, aun, isShift, Option.map_some, Option.bind_some, List.map_cons, List.map_nil, Hp.n_withLow, Hp.n_push, Hp.n_set, Hp.low_withLow, Hp.low_push, Hp.low_set, Hp.get_push, Hp.get_set, Hp.get_withLow, readVar, readCell, readCells, writeCells, over, cut, fillA, Bool.false_eq_true, if_false, if_true, reduceIte, List.getElem?_cons_zero, List.getElem?_cons_succ, Nat.zero_add, Nat.add_zero, Nat.reduceAdd, Nat.reduceSub, Nat.reduceLT, Nat.reduceLeDiff, Nat.reduceEqDiff, List.length_cons, List.length_nil, List.take_succ_cons, List.take_zero, List.drop_zero, List.drop_succ_cons, List.cons_append, List.nil_append, List.append_nil, DoneK, resAll, resOne, AV.under, AV.unders, and_true, true_and, and_self, or_true, true_or, cond_true, cond_false, Nat.le_refl, Nat.add_eq_left, Nat.left_eq_add, Nat.add_right_cancel_iff, Nat.add_left_cancel_iff, bne_self_eq_false, *]) | (refine GuardK_split (fun hb => ?_) (fun hb => ?_)) | (refine CondK_split (fun hb => ?_) (fun hb => ?_)) | (refine CodeK_regionD _ ?_) | (refine DGuardK_split (fun hb => ?_) (fun hb => ?_))
    refine CodeK_loop (InvS h (.slice a m c) (.slice a' m c') ps qs) m ?_ ?_
    · exact ⟨rfl, rfl, rfl, ⟨0, by omega, by omega, rfl, rfl⟩, rfl⟩
    · intro n tm h' I
      obtain ⟨i, hn, hi, e5, htake⟩ := I.st
      have el := I.len
      have e0 := I.t0
      have e1 := I.t1
      have hh := I.heap
      subst hh
      by_cases hlt : i < m
      case neg =>
        have l1 : decide ((i : Int) < (m : Int)) = false := by simp; omega
        have hall : ps = qs := by
          have h1 : ps.take i = ps := List.take_of_length_le (by omega)
          have h2 : qs.take i = qs := List.take_of_length_le (by omega)
          rw [← h1, ← h2, htake]
        have n2 : decide (ps = qs) = true := by simp [hall]
        rw [n2]
        repeat' first | (simp only [op_lenS, lenSV_str, op_lenV, lenV_slice, op_toInt, toIntV_int, op_iaddrS, RetK_inv, RetK_inv_exit, RetK_inv_ret, Nat.add_assoc, Nat.reduceEqDiff, Nat.reduceBEq, Nat.reduceBNe, Nat.le_min, Nat.le_add_right, Nat.min_self, Int.reduceBEq, Int.reduceBNe, Int.reduceLT, Int.reduceLE, Int.reduceEq, beq_self_eq_true, bne_self_eq_false, Bool.not_true, Bool.not_false, decide_true, decide_false, decide_eq_true_eq, Bool.and_eq_true, List.mapM_cons, List.mapM_nil, Option.bind_eq_bind, Option.pure_def, aeqK_agg, aeqK_scal, leavesK_nil, leavesK_cons, leafK_i, leafK_b, leafK_s, DrawK_nil, DrawK_cons, DrawK_guard, DResK_some, DGuardK_tt, DGuardK_ff, DGuardK_tf, DGuardK_ft, DGuardK_u, kept_load, Kept, KeptOne, closeOp, CO.quiet, CO.reads, CodeK_seq, CodeK_region, CodeK_skip, CodeK_ret, CodeK_exit, CodeK_cond, CodeK_block, CondK_true, CondK_false, RunK_cons, RunK_nil, RunK_guard, GuardK_tt, GuardK_ff, GuardK_tf, GuardK_ft, GuardK_u, ResK_some, RetK_nil, RetK_seq, RetK_seq_exit, RetK_seq_ret, RetK_block, RetK_block_ret, RetK_block_exit, RetK_block_exit_ne, op_mv, op_un, op_bin, op_load, loadV_ptr, op_faddr, faddrV_ptr, op_pick, pickV_true, pickV_false, pickV_bool, pickV_same, op_box, boxV_agg, op_call, op_build, op_ext, op_alloc, op_store, storeV_ptr, List.all_cons, List.all_nil, AV.one, AV.cells, Bool.and_self, Bool.and_true, Bool.true_and, put, CA.ev, List.set_cons_zero, List.set_cons_succ, List.getD_cons_zero, List.getD_cons_succ, abin, aint, aun, isShift, Option.map_some, Option.bind_some, List.map_cons, List.map_nil, Hp.n_withLow, Hp.n_push, Hp.n_set, Hp.low_withLow, Hp.low_push, Hp.low_set, Hp.get_push, Hp.get_set, Hp.get_withLow, readVar, readCell, readCells, writeCells, over, cut, fillA, Bool.false_eq_true, if_false, if_true, reduceIte, List.getElem?_cons_zero, List.getElem?_cons_succ, Nat.zero_add, Nat.add_zero, Nat.reduceAdd, Nat.reduceSub, Nat.reduceLT, Nat.reduceLeDiff, Nat.reduceEqDiff, List.length_cons, List.length_nil, List.take_succ_cons, List.take_zero, List.drop_zero, List.drop_succ_cons, List.cons_append, List.nil_append, List.append_nil, DoneK, resAll, resOne, AV.under, AV.unders, and_true, true_and, and_self, or_true, true_or, cond_true, cond_false, Nat.le_refl, Nat.add_eq_left, Nat.left_eq_add, Nat.add_right_cancel_iff, Nat.add_left_cancel_iff, el, e0, e1, e5, l1, tmset_self, tmset_ne, List.length_set, Nat.reduceBEq, Nat.reduceLT, *]) | (refine GuardK_split (fun hb => ?_) (fun hb => ?_)) | (refine CondK_split (fun hb => ?_) (fun hb => ?_)) | (refine CodeK_regionD _ ?_) | (refine DGuardK_split (fun hb => ?_) (fun hb => ?_))
      case pos =>
        have l1 : decide ((i : Int) < (m : Int)) = true := by simp; omega
        have hpi := List.getElem?_eq_getElem (l := ps) (i := i) (by omega)
        have hqi := List.getElem?_eq_getElem (l := qs) (i := i) (by omega)
        generalize ps[i]'(by omega) = p at hpi
        generalize qs[i]'(by omega) = q at hqi
        rcases hpa with rfl | ⟨b, o, cells, ro, rfl, hb, hg, hc⟩
        · simp at hm; omega
        rcases hqa with rfl | ⟨b', o', cells', ro', rfl, hb', hg', hc'⟩
        · simp at hlen; omega
        have k1 := hc i p hpi
        have k2 := hc' i q hqi
        have w1 : IntKind.wrap .i64 ((i : Int) + 1) = ((i + 1 : Nat) : Int) := by
          rw [wrap_i64 (by omega) (by omega)]
          omega
        obtain ⟨x1, y1⟩ := cut_parts k1
        obtain ⟨x2, y2⟩ := cut_parts k2
        dsimp only [Prt.cells] at y1 y2
        rw [Nat.add_assoc] at x1 x2
        have hee := partEq_iff p q
        unfold partEq at hee
        cases hpq : (p.a == q.a && (p.b == q.b && (p.c == q.c && (p.d == q.d && (p.e == q.e && (p.f == q.f && (p.g == q.g && (decide (p.s = q.s) && true)))))))) with
        | true =>
          have e : p = q := hee.1 hpq
          repeat' first | (simp only [op_lenS, lenSV_str, op_lenV, lenV_slice, op_toInt, toIntV_int, op_iaddrS, RetK_inv, RetK_inv_exit, RetK_inv_ret, Nat.add_assoc, Nat.reduceEqDiff, Nat.reduceBEq, Nat.reduceBNe, Nat.le_min, Nat.le_add_right, Nat.min_self, Int.reduceBEq, Int.reduceBNe, Int.reduceLT, Int.reduceLE, Int.reduceEq, beq_self_eq_true, bne_self_eq_false, Bool.not_true, Bool.not_false, decide_true, decide_false, decide_eq_true_eq, Bool.and_eq_true, List.mapM_cons, List.mapM_nil, Option.bind_eq_bind, Option.pure_def, aeqK_agg, aeqK_scal, leavesK_nil, leavesK_cons, leafK_i, leafK_b, leafK_s, DrawK_nil, DrawK_cons, DrawK_guard, DResK_some, DGuardK_tt, DGuardK_ff, DGuardK_tf, DGuardK_ft, DGuardK_u, kept_load, Kept, KeptOne, closeOp, CO.quiet, CO.reads, CodeK_seq, CodeK_region, CodeK_skip, CodeK_ret, CodeK_exit, CodeK_cond, CodeK_block, CondK_true, CondK_false, RunK_cons, RunK_nil, RunK_guard, GuardK_tt, GuardK_ff, GuardK_tf, GuardK_ft, GuardK_u, ResK_some, RetK_nil, RetK_seq, RetK_seq_exit, RetK_seq_ret, RetK_block, RetK_block_ret, RetK_block_exit, RetK_block_exit_ne, op_mv, op_un, op_bin, op_load, loadV_ptr, op_faddr, faddrV_ptr, op_pick, pickV_true, pickV_false, pickV_bool, pickV_same, op_box, boxV_agg, op_call, op_build, op_ext, op_alloc, op_store, storeV_ptr, List.all_cons, List.all_nil, AV.one, AV.cells, Bool.and_self, Bool.and_true, Bool.true_and, put, CA.ev, List.set_cons_zero, List.set_cons_succ, List.getD_cons_zero, List.getD_cons_succ, abin, aint, aun, isShift, Option.map_some, Option.bind_some, List.map_cons, List.map_nil, Hp.n_withLow, Hp.n_push, Hp.n_set, Hp.low_withLow, Hp.low_push, Hp.low_set, Hp.get_push, Hp.get_set, Hp.get_withLow, readVar, readCell, readCells, writeCells, over, cut, fillA, Bool.false_eq_true, if_false, if_true, reduceIte, List.getElem?_cons_zero, List.getElem?_cons_succ, Nat.zero_add, Nat.add_zero, Nat.reduceAdd, Nat.reduceSub, Nat.reduceLT, Nat.reduceLeDiff, Nat.reduceEqDiff, List.length_cons, List.length_nil, List.take_succ_cons, List.take_zero, List.drop_zero, List.drop_succ_cons, List.cons_append, List.nil_append, List.append_nil, DoneK, resAll, resOne, AV.under, AV.unders, and_true, true_and, and_self, or_true, true_or, cond_true, cond_false, Nat.le_refl, Nat.add_eq_left, Nat.left_eq_add, Nat.add_right_cancel_iff, Nat.add_left_cancel_iff, el, e0, e1, e5, l1, hg, hg', x1, x2, y1, y2, w1, hpq, iaddrV_nat hlt, tmset_self, tmset_ne, List.length_set, Nat.reduceBEq, Nat.reduceLT, *]) | (refine GuardK_split (fun hb => ?_) (fun hb => ?_)) | (refine CondK_split (fun hb => ?_) (fun hb => ?_)) | (refine CodeK_regionD _ ?_) | (refine DGuardK_split (fun hb => ?_) (fun hb => ?_))
          refine ⟨ps.length - (i + 1), by omega, ?_⟩
          refine ⟨by simp only [List.length_set, el], by simp only [tmset_self, tmset_ne, List.length_set, Nat.reduceBEq, Nat.reduceLT, el, e0], by simp only [tmset_self, tmset_ne, List.length_set, Nat.reduceBEq, Nat.reduceLT, el, e1], ⟨i + 1, rfl, by omega, by simp only [tmset_self, tmset_ne, List.length_set, Nat.reduceBEq, Nat.reduceLT, el], ?_⟩, rfl⟩
          exact take_step hpi hqi htake e
        | false =>
          have e : ¬ ps = qs := fun e0 => by
            rw [e0, hqi] at hpi
            have : q = p := by simpa using hpi
            rw [hee.2 this.symm] at hpq
            cases hpq
          have n2 : decide (ps = qs) = false := by simp [e]
          rw [n2]
          repeat' first | (simp only [op_lenS, lenSV_str, op_lenV, lenV_slice, op_toInt, toIntV_int, op_iaddrS, RetK_inv, RetK_inv_exit, RetK_inv_ret, Nat.add_assoc, Nat.reduceEqDiff, Nat.reduceBEq, Nat.reduceBNe, Nat.le_min, Nat.le_add_right, Nat.min_self, Int.reduceBEq, Int.reduceBNe, Int.reduceLT, Int.reduceLE, Int.reduceEq, beq_self_eq_true, bne_self_eq_false, Bool.not_true, Bool.not_false, decide_true, decide_false, decide_eq_true_eq, Bool.and_eq_true, List.mapM_cons, List.mapM_nil, Option.bind_eq_bind, Option.pure_def, aeqK_agg, aeqK_scal, leavesK_nil, leavesK_cons, leafK_i, leafK_b, leafK_s, DrawK_nil, DrawK_cons, DrawK_guard, DResK_some, DGuardK_tt, DGuardK_ff, DGuardK_tf, DGuardK_ft, DGuardK_u, kept_load, Kept, KeptOne, closeOp, CO.quiet, CO.reads, CodeK_seq, CodeK_region, CodeK_skip, CodeK_ret, CodeK_exit, CodeK_cond, CodeK_block, CondK_true, CondK_false, RunK_cons, RunK_nil, RunK_guard, GuardK_tt, GuardK_ff, GuardK_tf, GuardK_ft, GuardK_u, ResK_some, RetK_nil, RetK_seq, RetK_seq_exit, RetK_seq_ret, RetK_block, RetK_block_ret, RetK_block_exit, RetK_block_exit_ne, op_mv, op_un, op_bin, op_load, loadV_ptr, op_faddr, faddrV_ptr, op_pick, pickV_true, pickV_false, pickV_bool, pickV_same, op_box, boxV_agg, op_call, op_build, op_ext, op_alloc, op_store, storeV_ptr, List.all_cons, List.all_nil, AV.one, AV.cells, Bool.and_self, Bool.and_true, Bool.true_and, put, CA.ev, List.set_cons_zero, List.set_cons_succ, List.getD_cons_zero, List.getD_cons_succ, abin, aint, aun, isShift, Option.map_some, Option.bind_some, List.map_cons, List.map_nil, Hp.n_withLow, Hp.n_push, Hp.n_set, Hp.low_withLow, Hp.low_push, Hp.low_set, Hp.get_push, Hp.get_set, Hp.get_withLow, readVar, readCell, readCells, writeCells, over, cut, fillA, Bool.false_eq_true, if_false, if_true, reduceIte, List.getElem?_cons_zero, List.getElem?_cons_succ, Nat.zero_add, Nat.add_zero, Nat.reduceAdd, Nat.reduceSub, Nat.reduceLT, Nat.reduceLeDiff, Nat.reduceEqDiff, List.length_cons, List.length_nil, List.take_succ_cons, List.take_zero, List.drop_zero, List.drop_succ_cons, List.cons_append, List.nil_append, List.append_nil, DoneK, resAll, resOne, AV.under, AV.unders, and_true, true_and, and_self, or_true, true_or, cond_true, cond_false, Nat.le_refl, Nat.add_eq_left, Nat.left_eq_add, Nat.add_right_cancel_iff, Nat.add_left_cancel_iff, el, e0, e1, e5, l1, hg, hg', x1, x2, y1, y2, w1, hpq, iaddrV_nat hlt, tmset_self, tmset_ne, List.length_set, Nat.reduceBEq, Nat.reduceLT, *]) | (refine GuardK_split (fun hb => ?_) (fun hb => ?_)) | (refine CondK_split (fun hb => ?_) (fun hb => ?_)) | (refine CodeK_regionD _ ?_) | (refine DGuardK_split (fun hb => ?_) (fun hb => ?_))
          exfalso
          simp_all

theorem eff_same_spec (ho : orc 69 = none) (p q : Prt) (h : AH) : acall orc T 69 [.agg p.cells, .agg q.cells] h = some (.bool (decide (p = q)), h) := by
  refine acall_sym ho tbl69 ?_
  have hee := partEq_iff p q
  unfold partEq at hee
  have n2 : decide (p = q) = (p.a == q.a && (p.b == q.b && (p.c == q.c && (p.d == q.d && (p.e == q.e && (p.f == q.f && (p.g == q.g && (decide (p.s = q.s)))))))))  := by
    simp only [Bool.and_true] at hee
    rw [Bool.eq_iff_iff, decide_eq_true_eq, hee]
  rw [n2]
  dsimp only [List.length, List.replicate, List.append, List.cons_append, List.nil_append, Nat.reduceAdd, Nat.reduceSub, Prt.cells]
  repeat' first | (simp only [op_lenS, lenSV_str, op_lenV, lenV_slice, op_toInt, toIntV_int, op_iaddrS, RetK_inv, RetK_inv_exit, RetK_inv_ret, Nat.add_assoc, Nat.reduceEqDiff, Nat.reduceBEq, Nat.reduceBNe, Nat.le_min, Nat.le_add_right, Nat.min_self, Int.reduceBEq, Int.reduceBNe, Int.reduceLT, Int.reduceLE, Int.reduceEq, beq_self_eq_true, bne_self_eq_false, Bool.not_true, Bool.not_false, decide_true, decide_false, decide_eq_true_eq, Bool.and_eq_true, List.mapM_cons, List.mapM_nil, Option.bind_eq_bind, Option.pure_def, aeqK_agg, aeqK_scal, leavesK_nil, leavesK_cons, leafK_i, leafK_b, leafK_s, DrawK_nil, DrawK_cons, DrawK_guard, DResK_some, DGuardK_tt, DGuardK_ff, DGuardK_tf, DGuardK_ft, DGuardK_u, kept_load, Kept, KeptOne, closeOp, CO.quiet, CO.reads, CodeK_seq, CodeK_region, CodeK_skip, CodeK_ret, CodeK_exit, CodeK_cond, CodeK_block, CondK_true, CondK_false, RunK_cons, RunK_nil, RunK_guard, GuardK_tt, GuardK_ff, GuardK_tf, GuardK_ft, GuardK_u, ResK_some, RetK_nil, RetK_seq, RetK_seq_exit, RetK_seq_ret, RetK_block, RetK_block_ret, RetK_block_exit, RetK_block_exit_ne, op_mv, op_un, op_bin, op_load, loadV_ptr, op_faddr, faddrV_ptr, op_pick, pickV_true, pickV_false, pickV_bool, pickV_same, op_box, boxV_agg, op_call, op_build, op_ext, op_alloc, op_store, storeV_ptr, List.all_cons, List.all_nil, AV.one, AV.cells, Bool.and_self, Bool.and_true, Bool.true_and, put, CA.ev, List.set_cons_zero, List.set_cons_succ, List.getD_cons_zero, List.getD_cons_succ, abin, aint, aun, isShift, Option.map_some, Option.bind_some, List.map_cons, List.map_nil, Hp.n_withLow, Hp.n_push, Hp.n_set, Hp.low_withLow, Hp.low_push, Hp.low_set, Hp.get_push, Hp.get_set, Hp.get_withLow, readVar, readCell, readCells, writeCells, over, cut, fillA, Bool.false_eq_true, if_false, if_true, reduceIte, List.getElem?_cons_zero, List.getElem?_cons_succ, Nat.zero_add, Nat.add_zero, Nat.reduceAdd, Nat.reduceSub, Nat.reduceLT, Nat.reduceLeDiff, Nat.reduceEqDiff, List.length_cons, List.length_nil, List.take_succ_cons, List.take_zero, List.drop_zero, List.drop_succ_cons, List.cons_append, List.nil_append, List.append_nil, DoneK, resAll, resOne, AV.under, AV.unders, and_true, true_and, and_self, or_true, true_or, cond_true, cond_false, Nat.le_refl, Nat.add_eq_left, Nat.left_eq_add, Nat.add_right_cancel_iff, Nat.add_left_cancel_iff, *]) | (refine GuardK_split (fun hb => ?_) (fun hb => ?_)) | (refine CondK_split (fun hb => ?_) (fun hb => ?_)) | (refine CodeK_regionD _ ?_) | (refine DGuardK_split (fun hb => ?_) (fun hb => ?_))

structure InvE (h0 : AH) (v u : AV) (ps qs : List Prt) (m : Nat) (n : Nat) (tm : List AV) (h : AH) : Prop where
  len : tm.length = 32
  t0 : tm.getD 0 AV.undef = v
  t1 : tm.getD 1 AV.undef = u
  t2 : tm.getD 2 AV.undef = .func (.func 69) [] []
  t15 : tm.getD 15 AV.undef = v
  t16 : tm.getD 16 AV.undef = .int .i64 m
  st : ∃ i : Nat, n = m - i ∧ i ≤ m ∧ tm.getD 17 AV.undef = .int .i64 i ∧ ps.take i = qs.take i
  hn : h0.n ≤ h.n
  low : h0.n ≤ h.low
  old : ∀ b, b < h0.n → h.get b = h0.get b

set_option maxRecDepth 100000 in
set_option maxHeartbeats 4000000 in
theorem equal_spec (ho : orc 68 = none) (ho2 : orc 69 = none) {ps qs : List Prt} {v u : AV} {h : AH} (hp : Parts h v ps) (hq : Parts h u qs) :
    acall orc T 68 [v, u, .func (.func 69) [] []] h = some (.bool (decide (ps = qs)), h) := by
  refine acall_sym ho tbl68 ?_
  obtain ⟨a, c, rfl, hl, hpa⟩ := hp
  obtain ⟨a', c', rfl, hl', hqa⟩ := hq
  dsimp only [List.length, List.replicate, List.append, List.cons_append, List.nil_append, Nat.reduceAdd, Nat.reduceSub]
  by_cases hlen : qs.length = ps.length
  case neg =>
    have hne : ¬ ps = qs := fun e => hlen (by rw [e])
    have n1 : ((ps.length : Int) != (qs.length : Int)) = true := by simp; omega
    have n2 : decide (ps = qs) = false := by simp [hne]
    rw [n2]
    repeat' first | (simp only [op_lenS, lenSV_str, op_lenV, lenV_slice, op_toInt, toIntV_int, op_iaddrS, RetK_inv, RetK_inv_exit, RetK_inv_ret, Nat.add_assoc, Nat.reduceEqDiff, Nat.reduceBEq, Nat.reduceBNe, Nat.le_min, Nat.le_add_right, Nat.min_self, Int.reduceBEq, Int.reduceBNe, Int.reduceLT, Int.reduceLE, Int.reduceEq, beq_self_eq_true, bne_self_eq_false, Bool.not_true, Bool.not_false, decide_true, decide_false, decide_eq_true_eq, Bool.and_eq_true, List.mapM_cons, List.mapM_nil, Option.bind_eq_bind, Option.pure_def, aeqK_agg, aeqK_scal, leavesK_nil, leavesK_cons, leafK_i, leafK_b, leafK_s, DrawK_nil, DrawK_cons, DrawK_guard, DResK_some, DGuardK_tt, DGuardK_ff, DGuardK_tf, DGuardK_ft, DGuardK_u, kept_load, Kept, KeptOne, closeOp, CO.quiet, CO.reads, CodeK_seq, CodeK_region, CodeK_skip, CodeK_ret, CodeK_exit, CodeK_cond, CodeK_block, CondK_true, CondK_false, RunK_cons, RunK_nil, RunK_guard, GuardK_tt, GuardK_ff, GuardK_tf, GuardK_ft, GuardK_u, ResK_some, RetK_nil, RetK_seq, RetK_seq_exit, RetK_seq_ret, RetK_block, RetK_block_ret, RetK_block_exit, RetK_block_exit_ne, op_mv, op_un, op_bin, op_load, loadV_ptr, op_faddr, faddrV_ptr, op_pick, pickV_true, pickV_false, pickV_bool, pickV_same, op_box, boxV_agg, op_call, op_build, op_ext, op_alloc, op_store, storeV_ptr, List.all_cons, List.all_nil, AV.one, AV.cells, Bool.and_self, Bool.and_true, Bool.true_and, put, CA.ev, List.set_cons_zero, List.set_cons_succ, List.getD_cons_zero, List.getD_cons_succ, abin, aint, aun, isShift, Option.map_some, Option.bind_some, List.map_cons, List.map_nil, Hp.n_withLow, Hp.n_push, Hp.n_set, Hp.low_withLow, Hp.low_push, Hp.low_set, Hp.get_push, Hp.get_set, Hp.get_withLow, readVar, readCell, readCells, writeCells, over, cut, fillA, Bool.false_eq_true, if_false, if_true, reduceIte, List.getElem?_cons_zero, List.getElem?_cons_succ, Nat.zero_add, Nat.add_zero, Nat.reduceAdd, Nat.reduceSub, Nat.reduceLT, Nat.reduceLeDiff, Nat.reduceEqDiff, List.length_cons, List.length_nil, List.take_succ_cons, List.take_zero, List.drop_zero, List.drop_succ_cons, List.cons_append, List.nil_append, List.append_nil, DoneK, resAll, resOne, AV.under, AV.unders, and_true, true_and, and_self, or_true, true_or, cond_true, cond_false, Nat.le_refl, Nat.add_eq_left, Nat.left_eq_add, Nat.add_right_cancel_iff, Nat.add_left_cancel_iff, n1, *]) | (refine GuardK_split (fun hb => ?_) (fun hb => ?_)) | (refine CondK_split (fun hb => ?_) (fun hb => ?_)) | (refine CodeK_regionD _ ?_) | (refine DGuardK_split (fun hb => ?_) (fun hb => ?_))
  case pos =>
    rw [hlen]
    generalize hm : ps.length = m at *
    repeat' first | (simp only [op_lenS, lenSV_str, op_lenV, lenV_slice, op_toInt, toIntV_int, op_iaddrS, RetK_inv, RetK_inv_exit, RetK_inv_ret, Nat.add_assoc, Nat.reduceEqDiff, Nat.reduceBEq, Nat.reduceBNe, Nat.le_min, Nat.le_add_right, Nat.min_self, Int.reduceBEq, Int.reduceBNe, Int.reduceLT, Int.reduceLE, Int.reduceEq, beq_self_eq_true, bne_self_eq_false, Bool.not_true, Bool.not_false, decide_true, decide_false, decide_eq_true_eq, Bool.and_eq_true, List.mapM_cons, List.mapM_nil, Option.bind_eq_bind, Option.pure_def, aeqK_agg, aeqK_scal, leavesK_nil, leavesK_cons, leafK_i, leafK_b, leafK_s, DrawK_nil, DrawK_cons, DrawK_guard, DResK_some, DGuardK_tt, DGuardK_ff, DGuardK_tf, DGuardK_ft, DGuardK_u, kept_load, Kept, KeptOne, closeOp, CO.quiet, CO.reads, CodeK_seq, CodeK_region, CodeK_skip, CodeK_ret, CodeK_exit, CodeK_cond, CodeK_block, CondK_true, CondK_false, RunK_cons, RunK_nil, RunK_guard, GuardK_tt, GuardK_ff, GuardK_tf, GuardK_ft, GuardK_u, ResK_some, RetK_nil, RetK_seq, RetK_seq_exit, RetK_seq_ret, RetK_block, RetK_block_ret, RetK_block_exit, RetK_block_exit_ne, op_mv, op_un, op_bin, op_load, loadV_ptr, op_faddr, faddrV_ptr, op_pick, pickV_true, pickV_false, pickV_bool, pickV_same, op_box, boxV_agg, op_call, op_build, op_ext, op_alloc, op_store, storeV_ptr, List.all_cons, List.all_nil, AV.one, AV.cells, Bool.and_self, Bool.and_true, Bool.true_and, put, CA.ev, List.set_cons_zero, List.set_cons_succ, List.getD_cons_zero, List.getD_cons_succ, abin, aint, aun, isShift, Option.map_some, Option.bind_some, List.map_cons, List.map_nil, Hp.n_withLow, Hp.n_push, Hp.n_set, Hp.low_withLow, Hp.low_push, Hp.low_set, Hp.get_push, Hp.get_set, Hp.get_withLow, readVar, readCell, readCells, writeCells, over, cut, fillA, Bool.false_eq_true, if_false, if_true, reduceIte, List.getElem?_cons_zero, List.getElem?_cons_succ, Nat.zero_add, Nat.add_zero, Nat.reduceAdd, Nat.reduceSub, Nat.reduceLT, Nat.reduceLeDiff, Nat.reduceEqDiff, List.length_cons, List.length_nil, List.take_succ_cons, List.take_zero, List.drop_zero, List.drop_succ_cons, List.cons_append, List.nil_append, List.append_nil, DoneK, resAll, resOne, AV.under, AV.unders, and_true, true_and, and_self, or_true, true_or, cond_true, cond_false, Nat.le_refl, Nat.add_eq_left, Nat.left_eq_add, Nat.add_right_cancel_iff, Nat.add_left_cancel_iff, bne_self_eq_false, *]) | (refine GuardK_split (fun hb => ?_) (fun hb => ?_)) | (refine CondK_split (fun hb => ?_) (fun hb => ?_)) | (refine CodeK_regionD _ ?_) | (refine DGuardK_split (fun hb => ?_) (fun hb => ?_))
    refine CodeK_loop (InvE h (.slice a m c) (.slice a' m c') ps qs m) m ?_ ?_
    · exact ⟨rfl, rfl, rfl, rfl, rfl, rfl, ⟨0, by omega, by omega, rfl, rfl⟩, Nat.le_refl _, Nat.le_refl _, fun _ _ => rfl⟩
    · intro n tm h' I
      obtain ⟨i, hn, hi, e5, htake⟩ := I.st
      have el := I.len
      have e0 := I.t0
      have e1 := I.t1
      have e2 := I.t2
      have e15 := I.t15
      have e16 := I.t16
      have hlow := I.low
      have hnn := I.hn
      have hold := I.old
      by_cases hlt : i < m
      case neg =>
        have l1 : decide ((i : Int) < (m : Int)) = false := by simp; omega
        have hall : ps = qs := by
          have h1 : ps.take i = ps := List.take_of_length_le (by omega)
          have h2 : qs.take i = qs := List.take_of_length_le (by omega)
          rw [← h1, ← h2, htake]
        have n2 : decide (ps = qs) = true := by simp [hall]
        rw [n2]
        repeat' first | (simp only [op_lenS, lenSV_str, op_lenV, lenV_slice, op_toInt, toIntV_int, op_iaddrS, RetK_inv, RetK_inv_exit, RetK_inv_ret, Nat.add_assoc, Nat.reduceEqDiff, Nat.reduceBEq, Nat.reduceBNe, Nat.le_min, Nat.le_add_right, Nat.min_self, Int.reduceBEq, Int.reduceBNe, Int.reduceLT, Int.reduceLE, Int.reduceEq, beq_self_eq_true, bne_self_eq_false, Bool.not_true, Bool.not_false, decide_true, decide_false, decide_eq_true_eq, Bool.and_eq_true, List.mapM_cons, List.mapM_nil, Option.bind_eq_bind, Option.pure_def, aeqK_agg, aeqK_scal, leavesK_nil, leavesK_cons, leafK_i, leafK_b, leafK_s, DrawK_nil, DrawK_cons, DrawK_guard, DResK_some, DGuardK_tt, DGuardK_ff, DGuardK_tf, DGuardK_ft, DGuardK_u, kept_load, Kept, KeptOne, closeOp, CO.quiet, CO.reads, CodeK_seq, CodeK_region, CodeK_skip, CodeK_ret, CodeK_exit, CodeK_cond, CodeK_block, CondK_true, CondK_false, RunK_cons, RunK_nil, RunK_guard, GuardK_tt, GuardK_ff, GuardK_tf, GuardK_ft, GuardK_u, ResK_some, RetK_nil, RetK_seq, RetK_seq_exit, RetK_seq_ret, RetK_block, RetK_block_ret, RetK_block_exit, RetK_block_exit_ne, op_mv, op_un, op_bin, op_load, loadV_ptr, op_faddr, faddrV_ptr, op_pick, pickV_true, pickV_false, pickV_bool, pickV_same, op_box, boxV_agg, op_call, op_build, op_ext, op_alloc, op_store, storeV_ptr, List.all_cons, List.all_nil, AV.one, AV.cells, Bool.and_self, Bool.and_true, Bool.true_and, put, CA.ev, List.set_cons_zero, List.set_cons_succ, List.getD_cons_zero, List.getD_cons_succ, abin, aint, aun, isShift, Option.map_some, Option.bind_some, List.map_cons, List.map_nil, Hp.n_withLow, Hp.n_push, Hp.n_set, Hp.low_withLow, Hp.low_push, Hp.low_set, Hp.get_push, Hp.get_set, Hp.get_withLow, readVar, readCell, readCells, writeCells, over, cut, fillA, Bool.false_eq_true, if_false, if_true, reduceIte, List.getElem?_cons_zero, List.getElem?_cons_succ, Nat.zero_add, Nat.add_zero, Nat.reduceAdd, Nat.reduceSub, Nat.reduceLT, Nat.reduceLeDiff, Nat.reduceEqDiff, List.length_cons, List.length_nil, List.take_succ_cons, List.take_zero, List.drop_zero, List.drop_succ_cons, List.cons_append, List.nil_append, List.append_nil, DoneK, resAll, resOne, AV.under, AV.unders, and_true, true_and, and_self, or_true, true_or, cond_true, cond_false, Nat.le_refl, Nat.add_eq_left, Nat.left_eq_add, Nat.add_right_cancel_iff, Nat.add_left_cancel_iff, el, e0, e1, e2, e15, e16, e5, l1, tmset_self, tmset_ne, List.length_set, Nat.reduceBEq, Nat.reduceLT, *]) | (refine GuardK_split (fun hb => ?_) (fun hb => ?_)) | (refine CondK_split (fun hb => ?_) (fun hb => ?_)) | (refine CodeK_regionD _ ?_) | (refine DGuardK_split (fun hb => ?_) (fun hb => ?_))
      case pos =>
        have l1 : decide ((i : Int) < (m : Int)) = true := by simp; omega
        have hpi := List.getElem?_eq_getElem (l := ps) (i := i) (by omega)
        have hqi := List.getElem?_eq_getElem (l := qs) (i := i) (by omega)
        generalize ps[i]'(by omega) = p at hpi
        generalize qs[i]'(by omega) = q at hqi
        rcases hpa with rfl | ⟨b, o, cells, ro, rfl, hb, hg, hc⟩
        · simp at hm; omega
        rcases hqa with rfl | ⟨b', o', cells', ro', rfl, hb', hg', hc'⟩
        · simp at hlen; omega
        have k1 := hc i p hpi
        have k2 := hc' i q hqi
        have w1 : IntKind.wrap .i64 ((i : Int) + 1) = ((i + 1 : Nat) : Int) := by
          rw [wrap_i64 (by omega) (by omega)]
          omega
        obtain ⟨x1, y1⟩ := cut_parts k1
        obtain ⟨x2, y2⟩ := cut_parts k2
        have c1 := eff_same_spec ho2 p q
        dsimp only [Prt.cells] at y1 y2 c1
        rw [Nat.add_assoc] at x1 x2
        have q3 : h'.get b = some (.cells cells ro) := by rw [hold b hb, hg]
        have q4 : h'.get b' = some (.cells cells' ro') := by rw [hold b' hb', hg']
        have n1 : ¬ b = h'.n := by omega
        have n3 : ¬ b' = h'.n := by omega
        have n5 : ¬ b' = h'.n + 1 := by omega
        have fin : ∀ tm2 : List AV, tm2.length = 32 → tm2.getD 0 AV.undef = .slice (some (b, o)) m c → tm2.getD 1 AV.undef = .slice (some (b', o')) m c' → tm2.getD 2 AV.undef = .func (.func 69) [] [] → tm2.getD 15 AV.undef = .slice (some (b, o)) m c →
            tm2.getD 16 AV.undef = .int .i64 m → tm2.getD 17 AV.undef = .int .i64 ((i + 1 : Nat) : Int) → p = q → ∀ h2 : AH, h.n ≤ h2.n → h.n ≤ h2.low → (∀ b, b < h.n → h2.get b = h.get b) →
            ∃ m1, m1 < m - i ∧ InvE h (.slice (some (b, o)) m c) (.slice (some (b', o')) m c') ps qs m m1 tm2 h2 := fun tm2 f1 f2 f3 f4 f5 f6 f7 e h2 g1 g2 g3 =>
          ⟨m - (i + 1), by omega, ⟨f1, f2, f3, f4, f5, f6, ⟨i + 1, rfl, by omega, f7, take_step hpi hqi htake e⟩, g1, g2, g3⟩⟩
        by_cases e : p = q
        · subst e
          have n2 : decide (p = p) = true := by simp
          rw [n2] at c1
          replace fin := fun tm2 f1 f2 f3 f4 f5 f6 f7 => fin tm2 f1 f2 f3 f4 f5 f6 f7 rfl
          repeat' first | (simp only [op_lenS, lenSV_str, op_lenV, lenV_slice, op_toInt, toIntV_int, op_iaddrS, RetK_inv, RetK_inv_exit, RetK_inv_ret, Nat.add_assoc, Nat.reduceEqDiff, Nat.reduceBEq, Nat.reduceBNe, Nat.le_min, Nat.le_add_right, Nat.min_self, Int.reduceBEq, Int.reduceBNe, Int.reduceLT, Int.reduceLE, Int.reduceEq, beq_self_eq_true, bne_self_eq_false, Bool.not_true, Bool.not_false, decide_true, decide_false, decide_eq_true_eq, Bool.and_eq_true, List.mapM_cons, List.mapM_nil, Option.bind_eq_bind, Option.pure_def, aeqK_agg, aeqK_scal, leavesK_nil, leavesK_cons, leafK_i, leafK_b, leafK_s, DrawK_nil, DrawK_cons, DrawK_guard, DResK_some, DGuardK_tt, DGuardK_ff, DGuardK_tf, DGuardK_ft, DGuardK_u, kept_load, Kept, KeptOne, closeOp, CO.quiet, CO.reads, CodeK_seq, CodeK_region, CodeK_skip, CodeK_ret, CodeK_exit, CodeK_cond, CodeK_block, CondK_true, CondK_false, RunK_cons, RunK_nil, RunK_guard, GuardK_tt, GuardK_ff, GuardK_tf, GuardK_ft, GuardK_u, ResK_some, RetK_nil, RetK_seq, RetK_seq_exit, RetK_seq_ret, RetK_block, RetK_block_ret, RetK_block_exit, RetK_block_exit_ne, op_mv, op_un, op_bin, op_load, loadV_ptr, op_faddr, faddrV_ptr, op_pick, pickV_true, pickV_false, pickV_bool, pickV_same, op_box, boxV_agg, op_call, op_build, op_ext, op_alloc, op_store, storeV_ptr, List.all_cons, List.all_nil, AV.one, AV.cells, Bool.and_self, Bool.and_true, Bool.true_and, put, CA.ev, List.set_cons_zero, List.set_cons_succ, List.getD_cons_zero, List.getD_cons_succ, abin, aint, aun, isShift, Option.map_some, Option.bind_some, List.map_cons, List.map_nil, Hp.n_withLow, Hp.n_push, Hp.n_set, Hp.low_withLow, Hp.low_push, Hp.low_set, Hp.get_push, Hp.get_set, Hp.get_withLow, readVar, readCell, readCells, writeCells, over, cut, fillA, Bool.false_eq_true, if_false, if_true, reduceIte, List.getElem?_cons_zero, List.getElem?_cons_succ, Nat.zero_add, Nat.add_zero, Nat.reduceAdd, Nat.reduceSub, Nat.reduceLT, Nat.reduceLeDiff, Nat.reduceEqDiff, List.length_cons, List.length_nil, List.take_succ_cons, List.take_zero, List.drop_zero, List.drop_succ_cons, List.cons_append, List.nil_append, List.append_nil, DoneK, resAll, resOne, AV.under, AV.unders, and_true, true_and, and_self, or_true, true_or, cond_true, cond_false, Nat.le_refl, Nat.add_eq_left, Nat.left_eq_add, Nat.add_right_cancel_iff, Nat.add_left_cancel_iff, el, e0, e1, e2, e15, e16, e5, l1, q3, q4, n1, n3, n5, x1, x2, y1, y2, w1, c1, op_callV, callV_fn, iaddrV_nat hlt, tmset_self, tmset_ne, List.length_set, Nat.reduceBEq, Nat.reduceLT, *]) | (refine GuardK_split (fun hb => ?_) (fun hb => ?_)) | (refine CondK_split (fun hb => ?_) (fun hb => ?_)) | (refine CodeK_regionD _ ?_) | (refine DGuardK_split (fun hb => ?_) (fun hb => ?_))
          refine fin _ ?_ ?_ ?_ ?_ ?_ ?_ ?_ _ ?_ ?_ ?_
          · simp only [List.length_set, el]
          · simp only [tmset_self, tmset_ne, List.length_set, Nat.reduceBEq, Nat.reduceLT, el, e0]
          · simp only [tmset_self, tmset_ne, List.length_set, Nat.reduceBEq, Nat.reduceLT, el, e1]
          · simp only [tmset_self, tmset_ne, List.length_set, Nat.reduceBEq, Nat.reduceLT, el, e2]
          · simp only [tmset_self, tmset_ne, List.length_set, Nat.reduceBEq, Nat.reduceLT, el, e15]
          · simp only [tmset_self, tmset_ne, List.length_set, Nat.reduceBEq, Nat.reduceLT, el, e16]
          · simp only [tmset_self, tmset_ne, List.length_set, Nat.reduceBEq, Nat.reduceLT, el]
          · simp only [Hp.n_set, Hp.n_push]; omega
          · simp only [Hp.low_set, Hp.low_push, Nat.le_min, Hp.n_push]; omega
          · intro b2 hb2
            have m1 : ¬ b2 = h'.n := by omega
            have m2 : ¬ b2 = h'.n + 1 := by omega
            simp only [Hp.get_set, Hp.get_push, Hp.n_set, Hp.n_push, m1, m2, if_false, hold b2 hb2]
        · have n2 : decide (p = q) = false := by simp [e]
          rw [n2] at c1
          have e' : ¬ ps = qs := fun e0 => e (by rw [e0, hqi] at hpi; simpa using hpi.symm)
          have n4 : decide (ps = qs) = false := by simp [e']
          rw [n4]
          repeat' first | (simp only [op_lenS, lenSV_str, op_lenV, lenV_slice, op_toInt, toIntV_int, op_iaddrS, RetK_inv, RetK_inv_exit, RetK_inv_ret, Nat.add_assoc, Nat.reduceEqDiff, Nat.reduceBEq, Nat.reduceBNe, Nat.le_min, Nat.le_add_right, Nat.min_self, Int.reduceBEq, Int.reduceBNe, Int.reduceLT, Int.reduceLE, Int.reduceEq, beq_self_eq_true, bne_self_eq_false, Bool.not_true, Bool.not_false, decide_true, decide_false, decide_eq_true_eq, Bool.and_eq_true, List.mapM_cons, List.mapM_nil, Option.bind_eq_bind, Option.pure_def, aeqK_agg, aeqK_scal, leavesK_nil, leavesK_cons, leafK_i, leafK_b, leafK_s, DrawK_nil, DrawK_cons, DrawK_guard, DResK_some, DGuardK_tt, DGuardK_ff, DGuardK_tf, DGuardK_ft, DGuardK_u, kept_load, Kept, KeptOne, closeOp, CO.quiet, CO.reads, CodeK_seq, CodeK_region, CodeK_skip, CodeK_ret, CodeK_exit, CodeK_cond, CodeK_block, CondK_true, CondK_false, RunK_cons, RunK_nil, RunK_guard, GuardK_tt, GuardK_ff, GuardK_tf, GuardK_ft, GuardK_u, ResK_some, RetK_nil, RetK_seq, RetK_seq_exit, RetK_seq_ret, RetK_block, RetK_block_ret, RetK_block_exit, RetK_block_exit_ne, op_mv, op_un, op_bin, op_load, loadV_ptr, op_faddr, faddrV_ptr, op_pick, pickV_true, pickV_false, pickV_bool, pickV_same, op_box, boxV_agg, op_call, op_build, op_ext, op_alloc, op_store, storeV_ptr, List.all_cons, List.all_nil, AV.one, AV.cells, Bool.and_self, Bool.and_true, Bool.true_and, put, CA.ev, List.set_cons_zero, List.set_cons_succ, List.getD_cons_zero, List.getD_cons_succ, abin, aint, aun, isShift, Option.map_some, Option.bind_some, List.map_cons, List.map_nil, Hp.n_withLow, Hp.n_push, Hp.n_set, Hp.low_withLow, Hp.low_push, Hp.low_set, Hp.get_push, Hp.get_set, Hp.get_withLow, readVar, readCell, readCells, writeCells, over, cut, fillA, Bool.false_eq_true, if_false, if_true, reduceIte, List.getElem?_cons_zero, List.getElem?_cons_succ, Nat.zero_add, Nat.add_zero, Nat.reduceAdd, Nat.reduceSub, Nat.reduceLT, Nat.reduceLeDiff, Nat.reduceEqDiff, List.length_cons, List.length_nil, List.take_succ_cons, List.take_zero, List.drop_zero, List.drop_succ_cons, List.cons_append, List.nil_append, List.append_nil, DoneK, resAll, resOne, AV.under, AV.unders, and_true, true_and, and_self, or_true, true_or, cond_true, cond_false, Nat.le_refl, Nat.add_eq_left, Nat.left_eq_add, Nat.add_right_cancel_iff, Nat.add_left_cancel_iff, el, e0, e1, e2, e15, e16, e5, l1, q3, q4, n1, n3, n5, x1, x2, y1, y2, w1, c1, op_callV, callV_fn, iaddrV_nat hlt, tmset_self, tmset_ne, List.length_set, Nat.reduceBEq, Nat.reduceLT, *]) | (refine GuardK_split (fun hb => ?_) (fun hb => ?_)) | (refine CondK_split (fun hb => ?_) (fun hb => ?_)) | (refine CodeK_regionD _ ?_) | (refine DGuardK_split (fun hb => ?_) (fun hb => ?_))
          all_goals omega
end Go.Proofs.Cards
