/- The reference's memory, call by call. -/
import Derived.Test.YtnhkllnggpncfaaJsMem
namespace Go.Proofs.Js
open Go Go.Fs
set_option linter.unusedSimpArgs false
set_option linter.unusedVariables false
variable {orc : Orc}

/-- A row that has grown by appending. -/
def Row (h : AH) (own : Nat → Nat) (c : Nat) (v : AV) (cs : List AV) : Prop :=
  (cs = [] ∧ v = .slice none 0 (.exact 0)) ∨ (cs ≠ [] ∧ ∃ b, v = .slice (some (b, 0)) cs.length (.opn 1) ∧ b < h.n ∧ own b = c ∧ h.get b = some (.cells cs false))

structure RefM (h : AH) (own : Nat → Nat) (c s : Nat) (vF vO : AV) (E : Ent) : Prop where
  box : h.get s = some (.cells [.bool true, vF, vO] false)
  sn : s < h.n
  so : own s = c
  forms : Row h own (c + 1) vF (forms E)
  often : Row h own (c + 2) vO (often E)

def idxV : Option Nat → AV
  | some i => .int .i64 (i : Int)
  | none => .int .i64 (-1)

structure InvA (h0 : AH) (s : Nat) (f : List UInt8) (E : Ent) (n : Nat) (tm : List AV) (h : AH) : Prop where
  len : tm.length = 29
  t0 : tm.getD 0 AV.undef = .ptr (some (s, 0))
  t1 : tm.getD 1 AV.undef = .str f
  st : ∃ i : Nat, n = E.length - i ∧ i ≤ E.length ∧ tm.getD 5 AV.undef = .int .i64 i ∧ (idxE f (E.drop i)).map (· + i) = idxE f E
  heap : h = h0.withLow h0.n

set_option maxRecDepth 100000 in
set_option maxHeartbeats 4000000 in
theorem at_spec (ho : orc 66 = none) {h : AH} {own : Nat → Nat} {c s : Nat} {vF vO : AV} {E : Ent} (hm : RefM h own c s vF vO E) (hE : E.length ≤ 400) (f : List UInt8) :
    acall orc T 66 [.ptr (some (s, 0)), .str f] h = some (idxV (idxE f E), h) := by
  refine acall_sym ho tbl66 ?_
  have g1 := hm.box
  dsimp only [List.length, List.replicate, List.append, List.cons_append, List.nil_append, Nat.reduceAdd, Nat.reduceSub]
  have hlenv : ∀ hx : AH, lenV vF hx = some (.int .i64 (E.length : Int), hx) := fun hx => by
    rcases hm.forms with ⟨h1, rfl⟩ | ⟨h1, b, rfl, _⟩
    · have : E.length = 0 := by rw [← forms_length, h1]; rfl
      rw [this]; rfl
    · rw [forms_length]; rfl
  repeat' first | (simp only [op_lenS, lenSV_str, op_lenV, lenV_slice, op_toInt, toIntV_int, op_iaddrS, RetK_inv, RetK_inv_exit, RetK_inv_ret, Nat.add_assoc, Nat.reduceEqDiff, Nat.reduceBEq, Nat.reduceBNe, Nat.le_min, Nat.le_add_right, Nat.min_self, Int.reduceBEq, Int.reduceBNe, Int.reduceLT, Int.reduceLE, Int.reduceEq, beq_self_eq_true, bne_self_eq_false, Bool.not_true, Bool.not_false, decide_true, decide_false, decide_eq_true_eq, Bool.and_eq_true, List.mapM_cons, List.mapM_nil, Option.bind_eq_bind, Option.pure_def, aeqK_agg, aeqK_scal, leavesK_nil, leavesK_cons, leafK_i, leafK_b, leafK_s, DrawK_nil, DrawK_cons, DrawK_guard, DResK_some, DGuardK_tt, DGuardK_ff, DGuardK_tf, DGuardK_ft, DGuardK_u, kept_load, Kept, KeptOne, closeOp, CO.quiet, CO.reads, CodeK_seq, CodeK_region, CodeK_skip, CodeK_ret, CodeK_exit, CodeK_cond, CodeK_block, CondK_true, CondK_false, RunK_cons, RunK_nil, RunK_guard, GuardK_tt, GuardK_ff, GuardK_tf, GuardK_ft, GuardK_u, ResK_some, RetK_nil, RetK_seq, RetK_seq_exit, RetK_seq_ret, RetK_block, RetK_block_ret, RetK_block_exit, RetK_block_exit_ne, op_mv, op_un, op_bin, op_load, loadV_ptr, op_faddr, faddrV_ptr, op_pick, pickV_true, pickV_false, pickV_bool, pickV_same, op_box, boxV_agg, op_call, op_build, op_ext, op_alloc, op_store, storeV_ptr, List.all_cons, List.all_nil, AV.one, AV.cells, Bool.and_self, Bool.and_true, Bool.true_and, put, CA.ev, List.set_cons_zero, List.set_cons_succ, List.getD_cons_zero, List.getD_cons_succ, abin, aint, aun, isShift, Option.map_some, Option.bind_some, List.map_cons, List.map_nil, Hp.n_withLow, Hp.n_push, Hp.n_set, Hp.low_withLow, Hp.low_push, Hp.low_set, Hp.get_push, Hp.get_set, Hp.get_withLow, readVar, readCell, readCells, writeCells, over, cut, fillA, Bool.false_eq_true, if_false, if_true, reduceIte, List.getElem?_cons_zero, List.getElem?_cons_succ, Nat.zero_add, Nat.add_zero, Nat.reduceAdd, Nat.reduceSub, Nat.reduceLT, Nat.reduceLeDiff, Nat.reduceEqDiff, List.length_cons, List.length_nil, List.take_succ_cons, List.take_zero, List.drop_zero, List.drop_succ_cons, List.cons_append, List.nil_append, List.append_nil, DoneK, resAll, resOne, AV.under, AV.unders, and_true, true_and, and_self, or_true, true_or, cond_true, cond_false, Nat.le_refl, Nat.add_eq_left, Nat.left_eq_add, Nat.add_right_cancel_iff, Nat.add_left_cancel_iff, *]) | (refine GuardK_split (fun hb => ?_) (fun hb => ?_)) | (refine CondK_split (fun hb => ?_) (fun hb => ?_)) | (refine CodeK_regionD _ ?_) | (refine DGuardK_split (fun hb => ?_) (fun hb => ?_))
  refine CodeK_loop (InvA h s f E) E.length ?_ ?_
  · exact ⟨rfl, rfl, rfl, ⟨0, by omega, by omega, rfl, by simp⟩, rfl⟩
  · intro n tm h' I
    obtain ⟨i, hn, hi, e5, hx⟩ := I.st
    have el := I.len
    have e0 := I.t0
    have e1 := I.t1
    have hh := I.heap
    subst hh
    by_cases hlt : i < E.length
    case neg =>
      have l1 : decide ((i : Int) < (E.length : Int)) = false := by simp; omega
      have hd : E.drop i = [] := List.drop_of_length_le (by omega)
      rw [hd] at hx
      have hx' : idxE f E = none := hx.symm
      rw [hx']
      dsimp only [idxV]
      repeat' first | (simp only [op_lenS, lenSV_str, op_lenV, lenV_slice, op_toInt, toIntV_int, op_iaddrS, RetK_inv, RetK_inv_exit, RetK_inv_ret, Nat.add_assoc, Nat.reduceEqDiff, Nat.reduceBEq, Nat.reduceBNe, Nat.le_min, Nat.le_add_right, Nat.min_self, Int.reduceBEq, Int.reduceBNe, Int.reduceLT, Int.reduceLE, Int.reduceEq, beq_self_eq_true, bne_self_eq_false, Bool.not_true, Bool.not_false, decide_true, decide_false, decide_eq_true_eq, Bool.and_eq_true, List.mapM_cons, List.mapM_nil, Option.bind_eq_bind, Option.pure_def, aeqK_agg, aeqK_scal, leavesK_nil, leavesK_cons, leafK_i, leafK_b, leafK_s, DrawK_nil, DrawK_cons, DrawK_guard, DResK_some, DGuardK_tt, DGuardK_ff, DGuardK_tf, DGuardK_ft, DGuardK_u, kept_load, Kept, KeptOne, closeOp, CO.quiet, CO.reads, CodeK_seq, CodeK_region, CodeK_skip, CodeK_ret, CodeK_exit, CodeK_cond, CodeK_block, CondK_true, CondK_false, RunK_cons, RunK_nil, RunK_guard, GuardK_tt, GuardK_ff, GuardK_tf, GuardK_ft, GuardK_u, ResK_some, RetK_nil, RetK_seq, RetK_seq_exit, RetK_seq_ret, RetK_block, RetK_block_ret, RetK_block_exit, RetK_block_exit_ne, op_mv, op_un, op_bin, op_load, loadV_ptr, op_faddr, faddrV_ptr, op_pick, pickV_true, pickV_false, pickV_bool, pickV_same, op_box, boxV_agg, op_call, op_build, op_ext, op_alloc, op_store, storeV_ptr, List.all_cons, List.all_nil, AV.one, AV.cells, Bool.and_self, Bool.and_true, Bool.true_and, put, CA.ev, List.set_cons_zero, List.set_cons_succ, List.getD_cons_zero, List.getD_cons_succ, abin, aint, aun, isShift, Option.map_some, Option.bind_some, List.map_cons, List.map_nil, Hp.n_withLow, Hp.n_push, Hp.n_set, Hp.low_withLow, Hp.low_push, Hp.low_set, Hp.get_push, Hp.get_set, Hp.get_withLow, readVar, readCell, readCells, writeCells, over, cut, fillA, Bool.false_eq_true, if_false, if_true, reduceIte, List.getElem?_cons_zero, List.getElem?_cons_succ, Nat.zero_add, Nat.add_zero, Nat.reduceAdd, Nat.reduceSub, Nat.reduceLT, Nat.reduceLeDiff, Nat.reduceEqDiff, List.length_cons, List.length_nil, List.take_succ_cons, List.take_zero, List.drop_zero, List.drop_succ_cons, List.cons_append, List.nil_append, List.append_nil, DoneK, resAll, resOne, AV.under, AV.unders, and_true, true_and, and_self, or_true, true_or, cond_true, cond_false, Nat.le_refl, Nat.add_eq_left, Nat.left_eq_add, Nat.add_right_cancel_iff, Nat.add_left_cancel_iff, el, e0, e1, e5, l1, g1, hlenv, aeq, Option.isNone, op_nilchk, nilV_ptr, tmset_self, tmset_ne, List.length_set, Nat.reduceBEq, Nat.reduceLT, *]) | (refine GuardK_split (fun hb => ?_) (fun hb => ?_)) | (refine CondK_split (fun hb => ?_) (fun hb => ?_)) | (refine CodeK_regionD _ ?_) | (refine DGuardK_split (fun hb => ?_) (fun hb => ?_))
    case pos =>
      have l1 : decide ((i : Int) < (E.length : Int)) = true := by simp; omega
      have hE1 := List.getElem?_eq_getElem (l := E) (i := i) hlt
      have hd : E.drop i = E[i] :: E.drop (i + 1) := (List.getElem_cons_drop hlt).symm
      generalize E[i]'hlt = e at hE1 hd
      rw [hd] at hx
      have hf : (forms E)[i]? = some (.str e.1) := by simp [forms, hE1]
      have hfl := forms_length E
      have w1 : IntKind.wrap .i64 ((i : Int) + 1) = ((i + 1 : Nat) : Int) := by
        rw [wrap_i64 (by omega) (by omega)]
        omega
      rcases hm.forms with ⟨h1, _⟩ | ⟨_, b, rfl, hb, _, hg⟩
      · rw [h1] at hfl; simp at hfl; omega
      rw [hfl] at g1 hlenv
      by_cases hfe : f = e.1
      · have d1 : decide (e.1 = f) = true := by simp [hfe]
        have hx' : idxE f E = some i := by rw [← hx]; simp [idxE, hfe]
        rw [hx']
        dsimp only [idxV]
        repeat' first | (simp only [op_lenS, lenSV_str, op_lenV, lenV_slice, op_toInt, toIntV_int, op_iaddrS, RetK_inv, RetK_inv_exit, RetK_inv_ret, Nat.add_assoc, Nat.reduceEqDiff, Nat.reduceBEq, Nat.reduceBNe, Nat.le_min, Nat.le_add_right, Nat.min_self, Int.reduceBEq, Int.reduceBNe, Int.reduceLT, Int.reduceLE, Int.reduceEq, beq_self_eq_true, bne_self_eq_false, Bool.not_true, Bool.not_false, decide_true, decide_false, decide_eq_true_eq, Bool.and_eq_true, List.mapM_cons, List.mapM_nil, Option.bind_eq_bind, Option.pure_def, aeqK_agg, aeqK_scal, leavesK_nil, leavesK_cons, leafK_i, leafK_b, leafK_s, DrawK_nil, DrawK_cons, DrawK_guard, DResK_some, DGuardK_tt, DGuardK_ff, DGuardK_tf, DGuardK_ft, DGuardK_u, kept_load, Kept, KeptOne, closeOp, CO.quiet, CO.reads, CodeK_seq, CodeK_region, CodeK_skip, CodeK_ret, CodeK_exit, CodeK_cond, CodeK_block, CondK_true, CondK_false, RunK_cons, RunK_nil, RunK_guard, GuardK_tt, GuardK_ff, GuardK_tf, GuardK_ft, GuardK_u, ResK_some, RetK_nil, RetK_seq, RetK_seq_exit, RetK_seq_ret, RetK_block, RetK_block_ret, RetK_block_exit, RetK_block_exit_ne, op_mv, op_un, op_bin, op_load, loadV_ptr, op_faddr, faddrV_ptr, op_pick, pickV_true, pickV_false, pickV_bool, pickV_same, op_box, boxV_agg, op_call, op_build, op_ext, op_alloc, op_store, storeV_ptr, List.all_cons, List.all_nil, AV.one, AV.cells, Bool.and_self, Bool.and_true, Bool.true_and, put, CA.ev, List.set_cons_zero, List.set_cons_succ, List.getD_cons_zero, List.getD_cons_succ, abin, aint, aun, isShift, Option.map_some, Option.bind_some, List.map_cons, List.map_nil, Hp.n_withLow, Hp.n_push, Hp.n_set, Hp.low_withLow, Hp.low_push, Hp.low_set, Hp.get_push, Hp.get_set, Hp.get_withLow, readVar, readCell, readCells, writeCells, over, cut, fillA, Bool.false_eq_true, if_false, if_true, reduceIte, List.getElem?_cons_zero, List.getElem?_cons_succ, Nat.zero_add, Nat.add_zero, Nat.reduceAdd, Nat.reduceSub, Nat.reduceLT, Nat.reduceLeDiff, Nat.reduceEqDiff, List.length_cons, List.length_nil, List.take_succ_cons, List.take_zero, List.drop_zero, List.drop_succ_cons, List.cons_append, List.nil_append, List.append_nil, DoneK, resAll, resOne, AV.under, AV.unders, and_true, true_and, and_self, or_true, true_or, cond_true, cond_false, Nat.le_refl, Nat.add_eq_left, Nat.left_eq_add, Nat.add_right_cancel_iff, Nat.add_left_cancel_iff, el, e0, e1, e5, l1, g1, hg, hf, hlenv, d1, aeq, astr, Option.isNone, op_nilchk, nilV_ptr, iaddrV_nat hlt, Nat.mul_one, tmset_self, tmset_ne, List.length_set, Nat.reduceBEq, Nat.reduceLT, *]) | (refine GuardK_split (fun hb => ?_) (fun hb => ?_)) | (refine CondK_split (fun hb => ?_) (fun hb => ?_)) | (refine CodeK_regionD _ ?_) | (refine DGuardK_split (fun hb => ?_) (fun hb => ?_))
      · have d1 : decide (e.1 = f) = false := by simp; exact fun h => hfe h.symm
        have hx' : (idxE f (E.drop (i + 1))).map (· + (i + 1)) = idxE f E := by
          rw [← hx]
          simp only [idxE, if_neg hfe, Option.map_map]
          congr 1
          funext x
          simp; omega
        repeat' first | (simp only [op_lenS, lenSV_str, op_lenV, lenV_slice, op_toInt, toIntV_int, op_iaddrS, RetK_inv, RetK_inv_exit, RetK_inv_ret, Nat.add_assoc, Nat.reduceEqDiff, Nat.reduceBEq, Nat.reduceBNe, Nat.le_min, Nat.le_add_right, Nat.min_self, Int.reduceBEq, Int.reduceBNe, Int.reduceLT, Int.reduceLE, Int.reduceEq, beq_self_eq_true, bne_self_eq_false, Bool.not_true, Bool.not_false, decide_true, decide_false, decide_eq_true_eq, Bool.and_eq_true, List.mapM_cons, List.mapM_nil, Option.bind_eq_bind, Option.pure_def, aeqK_agg, aeqK_scal, leavesK_nil, leavesK_cons, leafK_i, leafK_b, leafK_s, DrawK_nil, DrawK_cons, DrawK_guard, DResK_some, DGuardK_tt, DGuardK_ff, DGuardK_tf, DGuardK_ft, DGuardK_u, kept_load, Kept, KeptOne, closeOp, CO.quiet, CO.reads, CodeK_seq, CodeK_region, CodeK_skip, CodeK_ret, CodeK_exit, CodeK_cond, CodeK_block, CondK_true, CondK_false, RunK_cons, RunK_nil, RunK_guard, GuardK_tt, GuardK_ff, GuardK_tf, GuardK_ft, GuardK_u, ResK_some, RetK_nil, RetK_seq, RetK_seq_exit, RetK_seq_ret, RetK_block, RetK_block_ret, RetK_block_exit, RetK_block_exit_ne, op_mv, op_un, op_bin, op_load, loadV_ptr, op_faddr, faddrV_ptr, op_pick, pickV_true, pickV_false, pickV_bool, pickV_same, op_box, boxV_agg, op_call, op_build, op_ext, op_alloc, op_store, storeV_ptr, List.all_cons, List.all_nil, AV.one, AV.cells, Bool.and_self, Bool.and_true, Bool.true_and, put, CA.ev, List.set_cons_zero, List.set_cons_succ, List.getD_cons_zero, List.getD_cons_succ, abin, aint, aun, isShift, Option.map_some, Option.bind_some, List.map_cons, List.map_nil, Hp.n_withLow, Hp.n_push, Hp.n_set, Hp.low_withLow, Hp.low_push, Hp.low_set, Hp.get_push, Hp.get_set, Hp.get_withLow, readVar, readCell, readCells, writeCells, over, cut, fillA, Bool.false_eq_true, if_false, if_true, reduceIte, List.getElem?_cons_zero, List.getElem?_cons_succ, Nat.zero_add, Nat.add_zero, Nat.reduceAdd, Nat.reduceSub, Nat.reduceLT, Nat.reduceLeDiff, Nat.reduceEqDiff, List.length_cons, List.length_nil, List.take_succ_cons, List.take_zero, List.drop_zero, List.drop_succ_cons, List.cons_append, List.nil_append, List.append_nil, DoneK, resAll, resOne, AV.under, AV.unders, and_true, true_and, and_self, or_true, true_or, cond_true, cond_false, Nat.le_refl, Nat.add_eq_left, Nat.left_eq_add, Nat.add_right_cancel_iff, Nat.add_left_cancel_iff, el, e0, e1, e5, l1, g1, hg, hf, hlenv, d1, w1, aeq, astr, Option.isNone, op_nilchk, nilV_ptr, iaddrV_nat hlt, Nat.mul_one, tmset_self, tmset_ne, List.length_set, Nat.reduceBEq, Nat.reduceLT, *]) | (refine GuardK_split (fun hb => ?_) (fun hb => ?_)) | (refine CondK_split (fun hb => ?_) (fun hb => ?_)) | (refine CodeK_regionD _ ?_) | (refine DGuardK_split (fun hb => ?_) (fun hb => ?_))
        exact ⟨E.length - (i + 1), by omega, ⟨by simp only [List.length_set, el], by simp only [tmset_self, tmset_ne, List.length_set, Nat.reduceBEq, Nat.reduceLT, el, e0], by simp only [tmset_self, tmset_ne, List.length_set, Nat.reduceBEq, Nat.reduceLT, el, e1], ⟨i + 1, rfl, by omega, by simp only [tmset_self, tmset_ne, List.length_set, Nat.reduceBEq, Nat.reduceLT, el], hx'⟩, rfl⟩⟩

set_option maxRecDepth 100000 in
set_option maxHeartbeats 4000000 in
theorem refseen_spec (ho : orc 27 = none) (ho2 : orc 66 = none) {h : AH} {own : Nat → Nat} {c s : Nat} {vF vO : AV} {E : Ent} (hm : RefM h own c s vF vO E) (hE : E.length ≤ 400) (f : List UInt8) :
    acall orc T 27 [.ptr (some (s, 0)), .str f] h = some (.int .i64 (findE f E), h) := by
  refine acall_sym ho tbl27 ?_
  have g1 := hm.box
  have hm' : RefM (h.withLow h.n) own c s vF vO E := ⟨by simpa using hm.box, hm.sn, hm.so, hm.forms, hm.often⟩
  have c1 := at_spec ho2 hm' hE f
  cases hx : idxE f E with
  | none =>
    rw [hx] at c1
    rw [(idx_none hx).1]
    dsimp only [List.length, List.replicate, List.append, List.cons_append, List.nil_append, Nat.reduceAdd, Nat.reduceSub, idxV] at c1 ⊢
    repeat' first | (simp only [op_lenS, lenSV_str, op_lenV, lenV_slice, op_toInt, toIntV_int, op_iaddrS, RetK_inv, RetK_inv_exit, RetK_inv_ret, Nat.add_assoc, Nat.reduceEqDiff, Nat.reduceBEq, Nat.reduceBNe, Nat.le_min, Nat.le_add_right, Nat.min_self, Int.reduceBEq, Int.reduceBNe, Int.reduceLT, Int.reduceLE, Int.reduceEq, beq_self_eq_true, bne_self_eq_false, Bool.not_true, Bool.not_false, decide_true, decide_false, decide_eq_true_eq, Bool.and_eq_true, List.mapM_cons, List.mapM_nil, Option.bind_eq_bind, Option.pure_def, aeqK_agg, aeqK_scal, leavesK_nil, leavesK_cons, leafK_i, leafK_b, leafK_s, DrawK_nil, DrawK_cons, DrawK_guard, DResK_some, DGuardK_tt, DGuardK_ff, DGuardK_tf, DGuardK_ft, DGuardK_u, kept_load, Kept, KeptOne, closeOp, CO.quiet, CO.reads, CodeK_seq, CodeK_region, CodeK_skip, CodeK_ret, CodeK_exit, CodeK_cond, CodeK_block, CondK_true, CondK_false, RunK_cons, RunK_nil, RunK_guard, GuardK_tt, GuardK_ff, GuardK_tf, GuardK_ft, GuardK_u, ResK_some, RetK_nil, RetK_seq, RetK_seq_exit, RetK_seq_ret, RetK_block, RetK_block_ret, RetK_block_exit, RetK_block_exit_ne, op_mv, op_un, op_bin, op_load, loadV_ptr, op_faddr, faddrV_ptr, op_pick, pickV_true, pickV_false, pickV_bool, pickV_same, op_box, boxV_agg, op_call, op_build, op_ext, op_alloc, op_store, storeV_ptr, List.all_cons, List.all_nil, AV.one, AV.cells, Bool.and_self, Bool.and_true, Bool.true_and, put, CA.ev, List.set_cons_zero, List.set_cons_succ, List.getD_cons_zero, List.getD_cons_succ, abin, aint, aun, isShift, Option.map_some, Option.bind_some, List.map_cons, List.map_nil, Hp.n_withLow, Hp.n_push, Hp.n_set, Hp.low_withLow, Hp.low_push, Hp.low_set, Hp.get_push, Hp.get_set, Hp.get_withLow, readVar, readCell, readCells, writeCells, over, cut, fillA, Bool.false_eq_true, if_false, if_true, reduceIte, List.getElem?_cons_zero, List.getElem?_cons_succ, Nat.zero_add, Nat.add_zero, Nat.reduceAdd, Nat.reduceSub, Nat.reduceLT, Nat.reduceLeDiff, Nat.reduceEqDiff, List.length_cons, List.length_nil, List.take_succ_cons, List.take_zero, List.drop_zero, List.drop_succ_cons, List.cons_append, List.nil_append, List.append_nil, DoneK, resAll, resOne, AV.under, AV.unders, and_true, true_and, and_self, or_true, true_or, cond_true, cond_false, Nat.le_refl, Nat.add_eq_left, Nat.left_eq_add, Nat.add_right_cancel_iff, Nat.add_left_cancel_iff, c1, g1, *]) | (refine GuardK_split (fun hb => ?_) (fun hb => ?_)) | (refine CondK_split (fun hb => ?_) (fun hb => ?_)) | (refine CodeK_regionD _ ?_) | (refine DGuardK_split (fun hb => ?_) (fun hb => ?_))
    all_goals first | (simp at hb; done) | simp
  | some i =>
    rw [hx] at c1
    obtain ⟨hf, _⟩ := idx_some hx
    have hlt := idx_lt hx
    have hol := often_length E
    have l1 : decide ((i : Int) < 0) = false := by simp
    rcases hm.often with ⟨h1, _⟩ | ⟨_, b, rfl, hb, _, hg⟩
    · rw [h1] at hol; simp at hol; omega
    rw [hol] at g1
    dsimp only [List.length, List.replicate, List.append, List.cons_append, List.nil_append, Nat.reduceAdd, Nat.reduceSub, idxV] at c1 ⊢
    repeat' first | (simp only [op_lenS, lenSV_str, op_lenV, lenV_slice, op_toInt, toIntV_int, op_iaddrS, RetK_inv, RetK_inv_exit, RetK_inv_ret, Nat.add_assoc, Nat.reduceEqDiff, Nat.reduceBEq, Nat.reduceBNe, Nat.le_min, Nat.le_add_right, Nat.min_self, Int.reduceBEq, Int.reduceBNe, Int.reduceLT, Int.reduceLE, Int.reduceEq, beq_self_eq_true, bne_self_eq_false, Bool.not_true, Bool.not_false, decide_true, decide_false, decide_eq_true_eq, Bool.and_eq_true, List.mapM_cons, List.mapM_nil, Option.bind_eq_bind, Option.pure_def, aeqK_agg, aeqK_scal, leavesK_nil, leavesK_cons, leafK_i, leafK_b, leafK_s, DrawK_nil, DrawK_cons, DrawK_guard, DResK_some, DGuardK_tt, DGuardK_ff, DGuardK_tf, DGuardK_ft, DGuardK_u, kept_load, Kept, KeptOne, closeOp, CO.quiet, CO.reads, CodeK_seq, CodeK_region, CodeK_skip, CodeK_ret, CodeK_exit, CodeK_cond, CodeK_block, CondK_true, CondK_false, RunK_cons, RunK_nil, RunK_guard, GuardK_tt, GuardK_ff, GuardK_tf, GuardK_ft, GuardK_u, ResK_some, RetK_nil, RetK_seq, RetK_seq_exit, RetK_seq_ret, RetK_block, RetK_block_ret, RetK_block_exit, RetK_block_exit_ne, op_mv, op_un, op_bin, op_load, loadV_ptr, op_faddr, faddrV_ptr, op_pick, pickV_true, pickV_false, pickV_bool, pickV_same, op_box, boxV_agg, op_call, op_build, op_ext, op_alloc, op_store, storeV_ptr, List.all_cons, List.all_nil, AV.one, AV.cells, Bool.and_self, Bool.and_true, Bool.true_and, put, CA.ev, List.set_cons_zero, List.set_cons_succ, List.getD_cons_zero, List.getD_cons_succ, abin, aint, aun, isShift, Option.map_some, Option.bind_some, List.map_cons, List.map_nil, Hp.n_withLow, Hp.n_push, Hp.n_set, Hp.low_withLow, Hp.low_push, Hp.low_set, Hp.get_push, Hp.get_set, Hp.get_withLow, readVar, readCell, readCells, writeCells, over, cut, fillA, Bool.false_eq_true, if_false, if_true, reduceIte, List.getElem?_cons_zero, List.getElem?_cons_succ, Nat.zero_add, Nat.add_zero, Nat.reduceAdd, Nat.reduceSub, Nat.reduceLT, Nat.reduceLeDiff, Nat.reduceEqDiff, List.length_cons, List.length_nil, List.take_succ_cons, List.take_zero, List.drop_zero, List.drop_succ_cons, List.cons_append, List.nil_append, List.append_nil, DoneK, resAll, resOne, AV.under, AV.unders, and_true, true_and, and_self, or_true, true_or, cond_true, cond_false, Nat.le_refl, Nat.add_eq_left, Nat.left_eq_add, Nat.add_right_cancel_iff, Nat.add_left_cancel_iff, c1, g1, hg, hf, l1, op_nilchk, nilV_ptr, iaddrV_nat hlt, Nat.mul_one, *]) | (refine GuardK_split (fun hb => ?_) (fun hb => ?_)) | (refine CondK_split (fun hb => ?_) (fun hb => ?_)) | (refine CodeK_regionD _ ?_) | (refine DGuardK_split (fun hb => ?_) (fun hb => ?_))
end Go.Proofs.Js
