/- Drawing, putting under, taking out, cutting, dealing: of every list; what was handed in stays; each answer is new memory. -/
import Derived.Test.YtnhkllnggpncfaaPsDeal
namespace Go.Proofs.Po
open Go Go.Fs
set_option linter.unusedSimpArgs false
set_option linter.unusedVariables false
variable {orc : Orc}

/-- The list of all rows, wherever it lies by now. -/
def AllR (N : Nat) (h : AH) (v : AV) (L : List AV) : Prop :=
  ∃ b cap, N ≤ b ∧ b < h.n ∧ (cap = .opn 1 ∨ cap = .exact L.length) ∧ v = .slice (some (b, 0)) L.length cap ∧ h.get b = some (.cells L false) ∧ L ≠ []

theorem app_all {N : Nat} {h : AH} {bx bytes : Nat} {v x : AV} {R : List AV} (hf : AllR N h v R) (hN : N ≤ h.n) (hone : x.one = true) (hl : (R.length + 1) * bytes ≤ 140737488355328) (hl2 : R.length ≤ 1000000) (hbx : h.get bx = some (.cells [x] false)) :
    ∃ v' h', appendRun 1 bytes v (.slice (some (bx, 0)) 1 (.exact 1)) h = some (v', h') ∧ (AllR N h' v' (R ++ [x]) ∧ h.n ≤ h'.n ∧ ∀ b, b < N → h'.get b = h.get b) := by
  have e1 : lenOf (.slice (some (bx, 0)) 1 (.exact 1)) = some 1 := rfl
  have e2 : elemsOf 1 h (.slice (some (bx, 0)) 1 (.exact 1)) = some [x] := by
    simp [elemsOf, readCells, hbx, Fs.cut]
  obtain ⟨b, cap, h2, h3, h4, rfl, h5, hne⟩ := hf
  have hp : 0 < R.length := List.length_pos_iff.2 hne
  have eold : ∀ cp, elemsOf 1 h (.slice (some (b, 0)) R.length cp) = some R := fun cp => by
    unfold elemsOf
    dsimp only
    rw [if_neg (by omega)]
    simp only [readCells, h5, Nat.mul_one]
    exact cut_iff.2 ⟨by omega, by rw [List.drop_zero, List.take_length]⟩
  rcases h4 with rfl | rfl
  · refine ⟨_, (h.set b .dead).push (.cells (R ++ [x]) false), ?_, ⟨h.n, .opn 1, hN, by simp, .inl rfl, rfl, by rw [show h.n = (h.set b .dead).n from rfl]; exact Hp.get_push_self _ _, by simp⟩, by simp, fun b' hb' => ?_⟩
    · unfold appendRun
      simp only [e1, e2, Option.bind_some, appendCore, eold, if_true, h5, Nat.zero_add, Nat.mul_one, List.all_cons, List.all_nil, hone, Bool.and_self, and_self]
      rw [if_neg (by omega), if_neg (by omega), if_pos ⟨hl, by omega⟩, List.length_append]
      simp only [Hp.n_set, List.length_cons, List.length_nil]
    · rw [Hp.get_push_ne _ _ _ (by simp; omega), Hp.get_set_ne _ _ _ _ (by omega)]
  · refine ⟨_, h.push (.cells (R ++ [x]) false), ?_, ⟨h.n, .opn 1, hN, by simp, .inl rfl, rfl, Hp.get_push_self _ _, by simp⟩, by simp, fun b' hb' => Hp.get_push_ne _ _ _ (by omega)⟩
    unfold appendRun
    simp only [e1, e2, Option.bind_some, appendCore, eold]
    rw [if_neg (by omega), if_pos ⟨hl, by omega⟩, List.length_append]
    simp only [List.length_cons, List.length_nil]

theorem Fr.apart {N : Nat} {h h' : AH} {own : Nat → Nat} {c : Nat} {v : AV} {xs : List Int} (hf : Fr N h own c v xs) (hg : ∀ b, N ≤ b → b < h.n → h'.get b = h.get b) : ∃ ob, apartRow 1 h' v = some ob ∧ ∀ b, ob = some b → N ≤ b ∧ b < h.n ∧ own b = c := by
  rcases hf with ⟨rfl, rfl⟩ | ⟨hne, b, h1, h2, h3, rfl, h4⟩
  · exact ⟨none, rfl, fun b hb => by cases hb⟩
  · refine ⟨some b, ?_, fun b' hb => by cases hb; exact ⟨h1, h2, h3⟩⟩
    unfold apartRow
    simp only [hg b h1 h2, h4]
    rw [if_pos ⟨trivial, by rw [ints_length, Nat.mul_one]⟩]
theorem FreshI.row {lo hi : Nat} {h h' : AH} {v : AV} {xs : List Int} (hf : FreshI lo hi h v xs) (hn : hi ≤ h'.n) (hg : ∀ b, lo ≤ b → b < hi → h'.get b = h.get b) : IntRow h' v xs :=
  ((hf.keep hg).fresh (Nat.le_refl lo) hn).row
theorem Fr.rowAt {N : Nat} {h h' : AH} {own : Nat → Nat} {c : Nat} {v : AV} {xs : List Int} (hf : Fr N h own c v xs) (hn : h.n ≤ h'.n) (hg : ∀ b, N ≤ b → b < h.n → h'.get b = h.get b) : IntRow h' v xs :=
  (hf.fresh.keep hn hg).row
theorem Lst.keep {N : Nat} {h h' : AH} {f : AV} {vs : List AV} (hf : Lst N h f vs) (hn : h.n ≤ h'.n) (hg : ∀ b, N ≤ b → b < h.n → h'.get b = h.get b) : Lst N h' f vs :=
  ⟨hf.len, fun i x hx => by
    obtain ⟨b, cells, ro, q1, q2, q3, q4, q5⟩ := hf.get i x hx
    exact ⟨b, cells, ro, q1, by rw [hg b q4 q5, q2], q3, q4, by omega⟩⟩

structure InvT (h0 : AH) (L7 vs : List AV) (ts : List (Nat × AV)) (n : Nat) (tm : List AV) (h : AH) : Prop where
  len : tm.length = 208
  ts : ∀ p ∈ ts, tm.getD p.1 AV.undef = p.2
  st : ∃ i : Nat, n = vs.length - i ∧ i ≤ vs.length ∧ tm.getD 37 AV.undef = .int .i64 (i : Int) ∧ AllR h0.n h (tm.getD 36 AV.undef) (L7 ++ vs.take i)
  keep : ∀ b, b < h0.n → h.get b = h0.get b
  nn : h0.n ≤ h.n

set_option maxRecDepth 100000 in
set_option maxHeartbeats 40000000 in
theorem takes_spec (ho : ∀ f, f ∈ [7, 15, 18, 19, 20, 38, 39, 40, 41, 42, 43, 44, 45, 46, 47, 49, 64, 75, 76, 80] → orc f = none) (hA : orc 21 = some (apartOrc 1)) {h : AH} {v : AV} {xs : List Int} (hr : IntRow h v xs) (hl : (xs.length + 2) * 8 ≤ 140737488355328) (x n0 hands each : Int) :
    ∃ h1, acall orc T 7 [v, .int .i64 x, .int .i64 n0, .int .i64 hands, .int .i64 each] h = some (.bool true, h1) := by
  suffices hs : ∃ v1 h', acall orc T 7 [v, .int .i64 x, .int .i64 n0, .int .i64 hands, .int .i64 each] h = some (v1, h') ∧ v1 = .bool true by
    obtain ⟨v1, h', h1, rfl⟩ := hs
    exact ⟨h', h1⟩
  refine acall_facts (R := fun v1 _ => v1 = .bool true) (ho 7 (by simp)) tbl7 ?_
  simp only [settle_fst]
  have hlen := hr.len
  have hsz : xs.length * 8 ≤ 140737488355328 := by omega
  dsimp only [List.length, List.replicate, List.append, List.cons_append, List.nil_append, Nat.reduceAdd, Nat.reduceSub]
  repeat' first | (simp only [op_lenS, lenSV_str, op_lenV, lenV_slice, op_toInt, toIntV_int, op_iaddrS, RetK_inv, RetK_inv_exit, RetK_inv_ret, Nat.add_assoc, Nat.reduceEqDiff, Nat.reduceBEq, Nat.reduceBNe, Nat.le_min, Nat.le_add_right, Nat.min_self, Int.reduceBEq, Int.reduceBNe, Int.reduceLT, Int.reduceLE, Int.reduceEq, beq_self_eq_true, bne_self_eq_false, Bool.not_true, Bool.not_false, decide_true, decide_false, decide_eq_true_eq, Bool.and_eq_true, List.mapM_cons, List.mapM_nil, Option.bind_eq_bind, Option.pure_def, aeqK_agg, aeqK_scal, leavesK_nil, leavesK_cons, leafK_i, leafK_b, leafK_s, DrawK_nil, DrawK_cons, DrawK_guard, DResK_some, DGuardK_tt, DGuardK_ff, DGuardK_tf, DGuardK_ft, DGuardK_u, kept_load, Kept, KeptOne, closeOp, CO.quiet, CO.reads, CodeK_seq, CodeK_region, CodeK_skip, CodeK_ret, CodeK_exit, CodeK_cond, CodeK_block, CondK_true, CondK_false, RunK_cons, RunK_nil, RunK_guard, GuardK_tt, GuardK_ff, GuardK_tf, GuardK_ft, GuardK_u, ResK_some, RetK_nil, RetK_seq, RetK_seq_exit, RetK_seq_ret, RetK_block, RetK_block_ret, RetK_block_exit, RetK_block_exit_ne, op_mv, op_un, op_bin, op_load, loadV_ptr, op_faddr, faddrV_ptr, op_pick, pickV_true, pickV_false, pickV_bool, pickV_same, op_box, boxV_agg, op_call, op_build, op_ext, op_alloc, op_store, storeV_ptr, List.all_cons, List.all_nil, AV.one, AV.cells, Bool.and_self, Bool.and_true, Bool.true_and, put, CA.ev, List.set_cons_zero, List.set_cons_succ, List.getD_cons_zero, List.getD_cons_succ, abin, aint, aun, isShift, Option.map_some, Option.bind_some, List.map_cons, List.map_nil, Hp.n_withLow, Hp.n_push, Hp.n_set, Hp.low_withLow, Hp.low_push, Hp.low_set, Hp.get_push, Hp.get_set, Hp.get_withLow, readVar, readCell, readCells, writeCells, cut, fillA, Bool.false_eq_true, if_false, if_true, reduceIte, List.getElem?_cons_zero, List.getElem?_cons_succ, Nat.zero_add, Nat.add_zero, Nat.reduceAdd, Nat.reduceSub, Nat.reduceLT, Nat.reduceLeDiff, Nat.reduceEqDiff, List.length_cons, List.length_nil, List.take_succ_cons, List.take_zero, List.drop_zero, List.drop_succ_cons, List.cons_append, List.nil_append, List.append_nil, DoneK, resAll, resOne, AV.under, AV.unders, and_true, true_and, and_self, or_true, true_or, cond_true, cond_false, Nat.le_refl, Nat.add_eq_left, Nat.left_eq_add, Nat.add_right_cancel_iff, Nat.add_left_cancel_iff, *]) | (refine GuardK_split (fun hb => ?_) (fun hb => ?_)) | (refine CondK_split (fun hb => ?_) (fun hb => ?_)) | (refine CodeK_regionD _ ?_) | (refine DGuardK_split (fun hb => ?_) (fun hb => ?_))
  refine ResK_ex (lent_spec (ho 15 (by simp)) (hr.ext (Ext.low h h.n)) hl) fun v1 H1 hL => ?_
  obtain ⟨b0, n0', n1, rfl, g0, x1⟩ := hL
  simp only [Hp.n_withLow] at n0'
  have rfull : IntRow H1 (.slice (some (b0, 0)) (xs.length + 2) (.exact (xs.length + 2))) (xs ++ [-77, -77]) :=
    ⟨some (b0, 0), .exact (xs.length + 2), by simp, .inl ⟨_, rfl, by simp⟩, .inr ⟨b0, 0, _, false, rfl, n1, g0, cut_iff.2 ⟨by rw [ints_length]; omega, by rw [List.drop_zero, ← ints_length, List.take_length]⟩⟩⟩
  obtain ⟨vt, s1, rt⟩ := slc_hi rfull (k := xs.length) (by simp)
  rw [List.take_left] at rt
  have hr1 := hr.ext ((Ext.low h h.n).trans x1)
  repeat' first | (simp only [op_lenS, lenSV_str, op_lenV, lenV_slice, op_toInt, toIntV_int, op_iaddrS, RetK_inv, RetK_inv_exit, RetK_inv_ret, Nat.add_assoc, Nat.reduceEqDiff, Nat.reduceBEq, Nat.reduceBNe, Nat.le_min, Nat.le_add_right, Nat.min_self, Int.reduceBEq, Int.reduceBNe, Int.reduceLT, Int.reduceLE, Int.reduceEq, beq_self_eq_true, bne_self_eq_false, Bool.not_true, Bool.not_false, decide_true, decide_false, decide_eq_true_eq, Bool.and_eq_true, List.mapM_cons, List.mapM_nil, Option.bind_eq_bind, Option.pure_def, aeqK_agg, aeqK_scal, leavesK_nil, leavesK_cons, leafK_i, leafK_b, leafK_s, DrawK_nil, DrawK_cons, DrawK_guard, DResK_some, DGuardK_tt, DGuardK_ff, DGuardK_tf, DGuardK_ft, DGuardK_u, kept_load, Kept, KeptOne, closeOp, CO.quiet, CO.reads, CodeK_seq, CodeK_region, CodeK_skip, CodeK_ret, CodeK_exit, CodeK_cond, CodeK_block, CondK_true, CondK_false, RunK_cons, RunK_nil, RunK_guard, GuardK_tt, GuardK_ff, GuardK_tf, GuardK_ft, GuardK_u, ResK_some, RetK_nil, RetK_seq, RetK_seq_exit, RetK_seq_ret, RetK_block, RetK_block_ret, RetK_block_exit, RetK_block_exit_ne, op_mv, op_un, op_bin, op_load, loadV_ptr, op_faddr, faddrV_ptr, op_pick, pickV_true, pickV_false, pickV_bool, pickV_same, op_box, boxV_agg, op_call, op_build, op_ext, op_alloc, op_store, storeV_ptr, List.all_cons, List.all_nil, AV.one, AV.cells, Bool.and_self, Bool.and_true, Bool.true_and, put, CA.ev, List.set_cons_zero, List.set_cons_succ, List.getD_cons_zero, List.getD_cons_succ, abin, aint, aun, isShift, Option.map_some, Option.bind_some, List.map_cons, List.map_nil, Hp.n_withLow, Hp.n_push, Hp.n_set, Hp.low_withLow, Hp.low_push, Hp.low_set, Hp.get_push, Hp.get_set, Hp.get_withLow, readVar, readCell, readCells, writeCells, cut, fillA, Bool.false_eq_true, if_false, if_true, reduceIte, List.getElem?_cons_zero, List.getElem?_cons_succ, Nat.zero_add, Nat.add_zero, Nat.reduceAdd, Nat.reduceSub, Nat.reduceLT, Nat.reduceLeDiff, Nat.reduceEqDiff, List.length_cons, List.length_nil, List.take_succ_cons, List.take_zero, List.drop_zero, List.drop_succ_cons, List.cons_append, List.nil_append, List.append_nil, DoneK, resAll, resOne, AV.under, AV.unders, and_true, true_and, and_self, or_true, true_or, cond_true, cond_false, Nat.le_refl, Nat.add_eq_left, Nat.left_eq_add, Nat.add_right_cancel_iff, Nat.add_left_cancel_iff, hlen, op_slcV, s1, *]) | (refine GuardK_split (fun hb => ?_) (fun hb => ?_)) | (refine CondK_split (fun hb => ?_) (fun hb => ?_)) | (refine CodeK_regionD _ ?_) | (refine DGuardK_split (fun hb => ?_) (fun hb => ?_))
  refine ResK_ex (draw_any (ho 38 (by simp)) rt hsz) fun v2 H2 hL => ?_
  obtain ⟨va, rfl, fa, x2⟩ := hL
  obtain ⟨aA, cA, rfl, _⟩ := id fa.row
  repeat' first | (simp only [op_lenS, lenSV_str, op_lenV, lenV_slice, op_toInt, toIntV_int, op_iaddrS, RetK_inv, RetK_inv_exit, RetK_inv_ret, Nat.add_assoc, Nat.reduceEqDiff, Nat.reduceBEq, Nat.reduceBNe, Nat.le_min, Nat.le_add_right, Nat.min_self, Int.reduceBEq, Int.reduceBNe, Int.reduceLT, Int.reduceLE, Int.reduceEq, beq_self_eq_true, bne_self_eq_false, Bool.not_true, Bool.not_false, decide_true, decide_false, decide_eq_true_eq, Bool.and_eq_true, List.mapM_cons, List.mapM_nil, Option.bind_eq_bind, Option.pure_def, aeqK_agg, aeqK_scal, leavesK_nil, leavesK_cons, leafK_i, leafK_b, leafK_s, DrawK_nil, DrawK_cons, DrawK_guard, DResK_some, DGuardK_tt, DGuardK_ff, DGuardK_tf, DGuardK_ft, DGuardK_u, kept_load, Kept, KeptOne, closeOp, CO.quiet, CO.reads, CodeK_seq, CodeK_region, CodeK_skip, CodeK_ret, CodeK_exit, CodeK_cond, CodeK_block, CondK_true, CondK_false, RunK_cons, RunK_nil, RunK_guard, GuardK_tt, GuardK_ff, GuardK_tf, GuardK_ft, GuardK_u, ResK_some, RetK_nil, RetK_seq, RetK_seq_exit, RetK_seq_ret, RetK_block, RetK_block_ret, RetK_block_exit, RetK_block_exit_ne, op_mv, op_un, op_bin, op_load, loadV_ptr, op_faddr, faddrV_ptr, op_pick, pickV_true, pickV_false, pickV_bool, pickV_same, op_box, boxV_agg, op_call, op_build, op_ext, op_alloc, op_store, storeV_ptr, List.all_cons, List.all_nil, AV.one, AV.cells, Bool.and_self, Bool.and_true, Bool.true_and, put, CA.ev, List.set_cons_zero, List.set_cons_succ, List.getD_cons_zero, List.getD_cons_succ, abin, aint, aun, isShift, Option.map_some, Option.bind_some, List.map_cons, List.map_nil, Hp.n_withLow, Hp.n_push, Hp.n_set, Hp.low_withLow, Hp.low_push, Hp.low_set, Hp.get_push, Hp.get_set, Hp.get_withLow, readVar, readCell, readCells, writeCells, cut, fillA, Bool.false_eq_true, if_false, if_true, reduceIte, List.getElem?_cons_zero, List.getElem?_cons_succ, Nat.zero_add, Nat.add_zero, Nat.reduceAdd, Nat.reduceSub, Nat.reduceLT, Nat.reduceLeDiff, Nat.reduceEqDiff, List.length_cons, List.length_nil, List.take_succ_cons, List.take_zero, List.drop_zero, List.drop_succ_cons, List.cons_append, List.nil_append, List.append_nil, DoneK, resAll, resOne, AV.under, AV.unders, and_true, true_and, and_self, or_true, true_or, cond_true, cond_false, Nat.le_refl, Nat.add_eq_left, Nat.left_eq_add, Nat.add_right_cancel_iff, Nat.add_left_cancel_iff, hlen, *]) | (refine GuardK_split (fun hb => ?_) (fun hb => ?_)) | (refine CondK_split (fun hb => ?_) (fun hb => ?_)) | (refine CodeK_regionD _ ?_) | (refine DGuardK_split (fun hb => ?_) (fun hb => ?_))
  refine ResK_ex (under_spec (ho 39 (by simp)) (ho 75 (by simp)) (ho 80 (by simp)) (rt.ext x2) (by omega) x) fun vb H3 hL => ?_
  obtain ⟨fb, x3⟩ := hL
  obtain ⟨aB, cB, rfl, _⟩ := id fb.row
  have x13 := x2.trans x3
  repeat' first | (simp only [op_lenS, lenSV_str, op_lenV, lenV_slice, op_toInt, toIntV_int, op_iaddrS, RetK_inv, RetK_inv_exit, RetK_inv_ret, Nat.add_assoc, Nat.reduceEqDiff, Nat.reduceBEq, Nat.reduceBNe, Nat.le_min, Nat.le_add_right, Nat.min_self, Int.reduceBEq, Int.reduceBNe, Int.reduceLT, Int.reduceLE, Int.reduceEq, beq_self_eq_true, bne_self_eq_false, Bool.not_true, Bool.not_false, decide_true, decide_false, decide_eq_true_eq, Bool.and_eq_true, List.mapM_cons, List.mapM_nil, Option.bind_eq_bind, Option.pure_def, aeqK_agg, aeqK_scal, leavesK_nil, leavesK_cons, leafK_i, leafK_b, leafK_s, DrawK_nil, DrawK_cons, DrawK_guard, DResK_some, DGuardK_tt, DGuardK_ff, DGuardK_tf, DGuardK_ft, DGuardK_u, kept_load, Kept, KeptOne, closeOp, CO.quiet, CO.reads, CodeK_seq, CodeK_region, CodeK_skip, CodeK_ret, CodeK_exit, CodeK_cond, CodeK_block, CondK_true, CondK_false, RunK_cons, RunK_nil, RunK_guard, GuardK_tt, GuardK_ff, GuardK_tf, GuardK_ft, GuardK_u, ResK_some, RetK_nil, RetK_seq, RetK_seq_exit, RetK_seq_ret, RetK_block, RetK_block_ret, RetK_block_exit, RetK_block_exit_ne, op_mv, op_un, op_bin, op_load, loadV_ptr, op_faddr, faddrV_ptr, op_pick, pickV_true, pickV_false, pickV_bool, pickV_same, op_box, boxV_agg, op_call, op_build, op_ext, op_alloc, op_store, storeV_ptr, List.all_cons, List.all_nil, AV.one, AV.cells, Bool.and_self, Bool.and_true, Bool.true_and, put, CA.ev, List.set_cons_zero, List.set_cons_succ, List.getD_cons_zero, List.getD_cons_succ, abin, aint, aun, isShift, Option.map_some, Option.bind_some, List.map_cons, List.map_nil, Hp.n_withLow, Hp.n_push, Hp.n_set, Hp.low_withLow, Hp.low_push, Hp.low_set, Hp.get_push, Hp.get_set, Hp.get_withLow, readVar, readCell, readCells, writeCells, cut, fillA, Bool.false_eq_true, if_false, if_true, reduceIte, List.getElem?_cons_zero, List.getElem?_cons_succ, Nat.zero_add, Nat.add_zero, Nat.reduceAdd, Nat.reduceSub, Nat.reduceLT, Nat.reduceLeDiff, Nat.reduceEqDiff, List.length_cons, List.length_nil, List.take_succ_cons, List.take_zero, List.drop_zero, List.drop_succ_cons, List.cons_append, List.nil_append, List.append_nil, DoneK, resAll, resOne, AV.under, AV.unders, and_true, true_and, and_self, or_true, true_or, cond_true, cond_false, Nat.le_refl, Nat.add_eq_left, Nat.left_eq_add, Nat.add_right_cancel_iff, Nat.add_left_cancel_iff, hlen, *]) | (refine GuardK_split (fun hb => ?_) (fun hb => ?_)) | (refine CondK_split (fun hb => ?_) (fun hb => ?_)) | (refine CodeK_regionD _ ?_) | (refine DGuardK_split (fun hb => ?_) (fun hb => ?_))
  refine ResK_ex (out_any (ho 40 (by simp)) (ho 76 (by simp)) (ho 75 (by simp)) (ho 80 (by simp)) (rt.ext x13) hsz x) fun v4 H4 hL => ?_
  obtain ⟨vc, rfl, fc, x4⟩ := hL
  obtain ⟨aC, cC, rfl, _⟩ := id fc.row
  have x14 := x13.trans x4
  repeat' first | (simp only [op_lenS, lenSV_str, op_lenV, lenV_slice, op_toInt, toIntV_int, op_iaddrS, RetK_inv, RetK_inv_exit, RetK_inv_ret, Nat.add_assoc, Nat.reduceEqDiff, Nat.reduceBEq, Nat.reduceBNe, Nat.le_min, Nat.le_add_right, Nat.min_self, Int.reduceBEq, Int.reduceBNe, Int.reduceLT, Int.reduceLE, Int.reduceEq, beq_self_eq_true, bne_self_eq_false, Bool.not_true, Bool.not_false, decide_true, decide_false, decide_eq_true_eq, Bool.and_eq_true, List.mapM_cons, List.mapM_nil, Option.bind_eq_bind, Option.pure_def, aeqK_agg, aeqK_scal, leavesK_nil, leavesK_cons, leafK_i, leafK_b, leafK_s, DrawK_nil, DrawK_cons, DrawK_guard, DResK_some, DGuardK_tt, DGuardK_ff, DGuardK_tf, DGuardK_ft, DGuardK_u, kept_load, Kept, KeptOne, closeOp, CO.quiet, CO.reads, CodeK_seq, CodeK_region, CodeK_skip, CodeK_ret, CodeK_exit, CodeK_cond, CodeK_block, CondK_true, CondK_false, RunK_cons, RunK_nil, RunK_guard, GuardK_tt, GuardK_ff, GuardK_tf, GuardK_ft, GuardK_u, ResK_some, RetK_nil, RetK_seq, RetK_seq_exit, RetK_seq_ret, RetK_block, RetK_block_ret, RetK_block_exit, RetK_block_exit_ne, op_mv, op_un, op_bin, op_load, loadV_ptr, op_faddr, faddrV_ptr, op_pick, pickV_true, pickV_false, pickV_bool, pickV_same, op_box, boxV_agg, op_call, op_build, op_ext, op_alloc, op_store, storeV_ptr, List.all_cons, List.all_nil, AV.one, AV.cells, Bool.and_self, Bool.and_true, Bool.true_and, put, CA.ev, List.set_cons_zero, List.set_cons_succ, List.getD_cons_zero, List.getD_cons_succ, abin, aint, aun, isShift, Option.map_some, Option.bind_some, List.map_cons, List.map_nil, Hp.n_withLow, Hp.n_push, Hp.n_set, Hp.low_withLow, Hp.low_push, Hp.low_set, Hp.get_push, Hp.get_set, Hp.get_withLow, readVar, readCell, readCells, writeCells, cut, fillA, Bool.false_eq_true, if_false, if_true, reduceIte, List.getElem?_cons_zero, List.getElem?_cons_succ, Nat.zero_add, Nat.add_zero, Nat.reduceAdd, Nat.reduceSub, Nat.reduceLT, Nat.reduceLeDiff, Nat.reduceEqDiff, List.length_cons, List.length_nil, List.take_succ_cons, List.take_zero, List.drop_zero, List.drop_succ_cons, List.cons_append, List.nil_append, List.append_nil, DoneK, resAll, resOne, AV.under, AV.unders, and_true, true_and, and_self, or_true, true_or, cond_true, cond_false, Nat.le_refl, Nat.add_eq_left, Nat.left_eq_add, Nat.add_right_cancel_iff, Nat.add_left_cancel_iff, hlen, *]) | (refine GuardK_split (fun hb => ?_) (fun hb => ?_)) | (refine CondK_split (fun hb => ?_) (fun hb => ?_)) | (refine CodeK_regionD _ ?_) | (refine DGuardK_split (fun hb => ?_) (fun hb => ?_))
  refine ResK_ex (cut_any (ho 41 (by simp)) (rt.ext x14) hsz n0) fun v5 H5 hL => ?_
  obtain ⟨vd, ve, m, rfl, fd, fe, x5, hm1, hm2⟩ := hL
  obtain ⟨aD, cD, rfl, _⟩ := id (fd.fresh (Nat.le_refl _) hm2).row
  obtain ⟨aE, cE, rfl, _⟩ := id (fe.fresh (Nat.le_refl _) (Nat.le_refl _)).row
  have x15 := x14.trans x5
  repeat' first | (simp only [op_lenS, lenSV_str, op_lenV, lenV_slice, op_toInt, toIntV_int, op_iaddrS, RetK_inv, RetK_inv_exit, RetK_inv_ret, Nat.add_assoc, Nat.reduceEqDiff, Nat.reduceBEq, Nat.reduceBNe, Nat.le_min, Nat.le_add_right, Nat.min_self, Int.reduceBEq, Int.reduceBNe, Int.reduceLT, Int.reduceLE, Int.reduceEq, beq_self_eq_true, bne_self_eq_false, Bool.not_true, Bool.not_false, decide_true, decide_false, decide_eq_true_eq, Bool.and_eq_true, List.mapM_cons, List.mapM_nil, Option.bind_eq_bind, Option.pure_def, aeqK_agg, aeqK_scal, leavesK_nil, leavesK_cons, leafK_i, leafK_b, leafK_s, DrawK_nil, DrawK_cons, DrawK_guard, DResK_some, DGuardK_tt, DGuardK_ff, DGuardK_tf, DGuardK_ft, DGuardK_u, kept_load, Kept, KeptOne, closeOp, CO.quiet, CO.reads, CodeK_seq, CodeK_region, CodeK_skip, CodeK_ret, CodeK_exit, CodeK_cond, CodeK_block, CondK_true, CondK_false, RunK_cons, RunK_nil, RunK_guard, GuardK_tt, GuardK_ff, GuardK_tf, GuardK_ft, GuardK_u, ResK_some, RetK_nil, RetK_seq, RetK_seq_exit, RetK_seq_ret, RetK_block, RetK_block_ret, RetK_block_exit, RetK_block_exit_ne, op_mv, op_un, op_bin, op_load, loadV_ptr, op_faddr, faddrV_ptr, op_pick, pickV_true, pickV_false, pickV_bool, pickV_same, op_box, boxV_agg, op_call, op_build, op_ext, op_alloc, op_store, storeV_ptr, List.all_cons, List.all_nil, AV.one, AV.cells, Bool.and_self, Bool.and_true, Bool.true_and, put, CA.ev, List.set_cons_zero, List.set_cons_succ, List.getD_cons_zero, List.getD_cons_succ, abin, aint, aun, isShift, Option.map_some, Option.bind_some, List.map_cons, List.map_nil, Hp.n_withLow, Hp.n_push, Hp.n_set, Hp.low_withLow, Hp.low_push, Hp.low_set, Hp.get_push, Hp.get_set, Hp.get_withLow, readVar, readCell, readCells, writeCells, cut, fillA, Bool.false_eq_true, if_false, if_true, reduceIte, List.getElem?_cons_zero, List.getElem?_cons_succ, Nat.zero_add, Nat.add_zero, Nat.reduceAdd, Nat.reduceSub, Nat.reduceLT, Nat.reduceLeDiff, Nat.reduceEqDiff, List.length_cons, List.length_nil, List.take_succ_cons, List.take_zero, List.drop_zero, List.drop_succ_cons, List.cons_append, List.nil_append, List.append_nil, DoneK, resAll, resOne, AV.under, AV.unders, and_true, true_and, and_self, or_true, true_or, cond_true, cond_false, Nat.le_refl, Nat.add_eq_left, Nat.left_eq_add, Nat.add_right_cancel_iff, Nat.add_left_cancel_iff, hlen, *]) | (refine GuardK_split (fun hb => ?_) (fun hb => ?_)) | (refine CondK_split (fun hb => ?_) (fun hb => ?_)) | (refine CodeK_regionD _ ?_) | (refine DGuardK_split (fun hb => ?_) (fun hb => ?_))
  refine ResK_ex (deal_any (ho 42 (by simp)) (rt.ext x15) hsz hands each) fun v6 H6 hL => ?_
  obtain ⟨f, g, own, vs, rows, gl, er, rfl, x6, lf, hvl, hrl, hrow, fg, hgl, hRG⟩ := hL
  obtain ⟨aG, cG, rfl, _⟩ := id fg.fresh.row
  have x16 := x15.trans x6
  repeat' first | (simp only [op_lenS, lenSV_str, op_lenV, lenV_slice, op_toInt, toIntV_int, op_iaddrS, RetK_inv, RetK_inv_exit, RetK_inv_ret, Nat.add_assoc, Nat.reduceEqDiff, Nat.reduceBEq, Nat.reduceBNe, Nat.le_min, Nat.le_add_right, Nat.min_self, Int.reduceBEq, Int.reduceBNe, Int.reduceLT, Int.reduceLE, Int.reduceEq, beq_self_eq_true, bne_self_eq_false, Bool.not_true, Bool.not_false, decide_true, decide_false, decide_eq_true_eq, Bool.and_eq_true, List.mapM_cons, List.mapM_nil, Option.bind_eq_bind, Option.pure_def, aeqK_agg, aeqK_scal, leavesK_nil, leavesK_cons, leafK_i, leafK_b, leafK_s, DrawK_nil, DrawK_cons, DrawK_guard, DResK_some, DGuardK_tt, DGuardK_ff, DGuardK_tf, DGuardK_ft, DGuardK_u, kept_load, Kept, KeptOne, closeOp, CO.quiet, CO.reads, CodeK_seq, CodeK_region, CodeK_skip, CodeK_ret, CodeK_exit, CodeK_cond, CodeK_block, CondK_true, CondK_false, RunK_cons, RunK_nil, RunK_guard, GuardK_tt, GuardK_ff, GuardK_tf, GuardK_ft, GuardK_u, ResK_some, RetK_nil, RetK_seq, RetK_seq_exit, RetK_seq_ret, RetK_block, RetK_block_ret, RetK_block_exit, RetK_block_exit_ne, op_mv, op_un, op_bin, op_load, loadV_ptr, op_faddr, faddrV_ptr, op_pick, pickV_true, pickV_false, pickV_bool, pickV_same, op_box, boxV_agg, op_call, op_build, op_ext, op_alloc, op_store, storeV_ptr, List.all_cons, List.all_nil, AV.one, AV.cells, Bool.and_self, Bool.and_true, Bool.true_and, put, CA.ev, List.set_cons_zero, List.set_cons_succ, List.getD_cons_zero, List.getD_cons_succ, abin, aint, aun, isShift, Option.map_some, Option.bind_some, List.map_cons, List.map_nil, Hp.n_withLow, Hp.n_push, Hp.n_set, Hp.low_withLow, Hp.low_push, Hp.low_set, Hp.get_push, Hp.get_set, Hp.get_withLow, readVar, readCell, readCells, writeCells, cut, fillA, Bool.false_eq_true, if_false, if_true, reduceIte, List.getElem?_cons_zero, List.getElem?_cons_succ, Nat.zero_add, Nat.add_zero, Nat.reduceAdd, Nat.reduceSub, Nat.reduceLT, Nat.reduceLeDiff, Nat.reduceEqDiff, List.length_cons, List.length_nil, List.take_succ_cons, List.take_zero, List.drop_zero, List.drop_succ_cons, List.cons_append, List.nil_append, List.append_nil, DoneK, resAll, resOne, AV.under, AV.unders, and_true, true_and, and_self, or_true, true_or, cond_true, cond_false, Nat.le_refl, Nat.add_eq_left, Nat.left_eq_add, Nat.add_right_cancel_iff, Nat.add_left_cancel_iff, hlen, *]) | (refine GuardK_split (fun hb => ?_) (fun hb => ?_)) | (refine CondK_split (fun hb => ?_) (fun hb => ?_)) | (refine CodeK_regionD _ ?_) | (refine DGuardK_split (fun hb => ?_) (fun hb => ?_))
  refine ResK_ex (refdraw_any (ho 43 (by simp)) (ho 64 (by simp)) (hr1.ext x16) hsz) fun v7 H7 hL => ?_
  obtain ⟨wa, rfl, fwa, x7⟩ := hL
  have x17 := x16.trans x7
  repeat' first | (simp only [op_lenS, lenSV_str, op_lenV, lenV_slice, op_toInt, toIntV_int, op_iaddrS, RetK_inv, RetK_inv_exit, RetK_inv_ret, Nat.add_assoc, Nat.reduceEqDiff, Nat.reduceBEq, Nat.reduceBNe, Nat.le_min, Nat.le_add_right, Nat.min_self, Int.reduceBEq, Int.reduceBNe, Int.reduceLT, Int.reduceLE, Int.reduceEq, beq_self_eq_true, bne_self_eq_false, Bool.not_true, Bool.not_false, decide_true, decide_false, decide_eq_true_eq, Bool.and_eq_true, List.mapM_cons, List.mapM_nil, Option.bind_eq_bind, Option.pure_def, aeqK_agg, aeqK_scal, leavesK_nil, leavesK_cons, leafK_i, leafK_b, leafK_s, DrawK_nil, DrawK_cons, DrawK_guard, DResK_some, DGuardK_tt, DGuardK_ff, DGuardK_tf, DGuardK_ft, DGuardK_u, kept_load, Kept, KeptOne, closeOp, CO.quiet, CO.reads, CodeK_seq, CodeK_region, CodeK_skip, CodeK_ret, CodeK_exit, CodeK_cond, CodeK_block, CondK_true, CondK_false, RunK_cons, RunK_nil, RunK_guard, GuardK_tt, GuardK_ff, GuardK_tf, GuardK_ft, GuardK_u, ResK_some, RetK_nil, RetK_seq, RetK_seq_exit, RetK_seq_ret, RetK_block, RetK_block_ret, RetK_block_exit, RetK_block_exit_ne, op_mv, op_un, op_bin, op_load, loadV_ptr, op_faddr, faddrV_ptr, op_pick, pickV_true, pickV_false, pickV_bool, pickV_same, op_box, boxV_agg, op_call, op_build, op_ext, op_alloc, op_store, storeV_ptr, List.all_cons, List.all_nil, AV.one, AV.cells, Bool.and_self, Bool.and_true, Bool.true_and, put, CA.ev, List.set_cons_zero, List.set_cons_succ, List.getD_cons_zero, List.getD_cons_succ, abin, aint, aun, isShift, Option.map_some, Option.bind_some, List.map_cons, List.map_nil, Hp.n_withLow, Hp.n_push, Hp.n_set, Hp.low_withLow, Hp.low_push, Hp.low_set, Hp.get_push, Hp.get_set, Hp.get_withLow, readVar, readCell, readCells, writeCells, cut, fillA, Bool.false_eq_true, if_false, if_true, reduceIte, List.getElem?_cons_zero, List.getElem?_cons_succ, Nat.zero_add, Nat.add_zero, Nat.reduceAdd, Nat.reduceSub, Nat.reduceLT, Nat.reduceLeDiff, Nat.reduceEqDiff, List.length_cons, List.length_nil, List.take_succ_cons, List.take_zero, List.drop_zero, List.drop_succ_cons, List.cons_append, List.nil_append, List.append_nil, DoneK, resAll, resOne, AV.under, AV.unders, and_true, true_and, and_self, or_true, true_or, cond_true, cond_false, Nat.le_refl, Nat.add_eq_left, Nat.left_eq_add, Nat.add_right_cancel_iff, Nat.add_left_cancel_iff, hlen, *]) | (refine GuardK_split (fun hb => ?_) (fun hb => ?_)) | (refine CondK_split (fun hb => ?_) (fun hb => ?_)) | (refine CodeK_regionD _ ?_) | (refine DGuardK_split (fun hb => ?_) (fun hb => ?_))
  refine ResK_ex (refout_any (ho 44 (by simp)) (ho 64 (by simp)) (hr1.ext x17) hsz x) fun v8 H8 hL => ?_
  obtain ⟨wc, rfl, fwc, x8⟩ := hL
  have x18 := x17.trans x8
  repeat' first | (simp only [op_lenS, lenSV_str, op_lenV, lenV_slice, op_toInt, toIntV_int, op_iaddrS, RetK_inv, RetK_inv_exit, RetK_inv_ret, Nat.add_assoc, Nat.reduceEqDiff, Nat.reduceBEq, Nat.reduceBNe, Nat.le_min, Nat.le_add_right, Nat.min_self, Int.reduceBEq, Int.reduceBNe, Int.reduceLT, Int.reduceLE, Int.reduceEq, beq_self_eq_true, bne_self_eq_false, Bool.not_true, Bool.not_false, decide_true, decide_false, decide_eq_true_eq, Bool.and_eq_true, List.mapM_cons, List.mapM_nil, Option.bind_eq_bind, Option.pure_def, aeqK_agg, aeqK_scal, leavesK_nil, leavesK_cons, leafK_i, leafK_b, leafK_s, DrawK_nil, DrawK_cons, DrawK_guard, DResK_some, DGuardK_tt, DGuardK_ff, DGuardK_tf, DGuardK_ft, DGuardK_u, kept_load, Kept, KeptOne, closeOp, CO.quiet, CO.reads, CodeK_seq, CodeK_region, CodeK_skip, CodeK_ret, CodeK_exit, CodeK_cond, CodeK_block, CondK_true, CondK_false, RunK_cons, RunK_nil, RunK_guard, GuardK_tt, GuardK_ff, GuardK_tf, GuardK_ft, GuardK_u, ResK_some, RetK_nil, RetK_seq, RetK_seq_exit, RetK_seq_ret, RetK_block, RetK_block_ret, RetK_block_exit, RetK_block_exit_ne, op_mv, op_un, op_bin, op_load, loadV_ptr, op_faddr, faddrV_ptr, op_pick, pickV_true, pickV_false, pickV_bool, pickV_same, op_box, boxV_agg, op_call, op_build, op_ext, op_alloc, op_store, storeV_ptr, List.all_cons, List.all_nil, AV.one, AV.cells, Bool.and_self, Bool.and_true, Bool.true_and, put, CA.ev, List.set_cons_zero, List.set_cons_succ, List.getD_cons_zero, List.getD_cons_succ, abin, aint, aun, isShift, Option.map_some, Option.bind_some, List.map_cons, List.map_nil, Hp.n_withLow, Hp.n_push, Hp.n_set, Hp.low_withLow, Hp.low_push, Hp.low_set, Hp.get_push, Hp.get_set, Hp.get_withLow, readVar, readCell, readCells, writeCells, cut, fillA, Bool.false_eq_true, if_false, if_true, reduceIte, List.getElem?_cons_zero, List.getElem?_cons_succ, Nat.zero_add, Nat.add_zero, Nat.reduceAdd, Nat.reduceSub, Nat.reduceLT, Nat.reduceLeDiff, Nat.reduceEqDiff, List.length_cons, List.length_nil, List.take_succ_cons, List.take_zero, List.drop_zero, List.drop_succ_cons, List.cons_append, List.nil_append, List.append_nil, DoneK, resAll, resOne, AV.under, AV.unders, and_true, true_and, and_self, or_true, true_or, cond_true, cond_false, Nat.le_refl, Nat.add_eq_left, Nat.left_eq_add, Nat.add_right_cancel_iff, Nat.add_left_cancel_iff, hlen, *]) | (refine GuardK_split (fun hb => ?_) (fun hb => ?_)) | (refine CondK_split (fun hb => ?_) (fun hb => ?_)) | (refine CodeK_regionD _ ?_) | (refine DGuardK_split (fun hb => ?_) (fun hb => ?_))
  refine ResK_ex (refcut_any (ho 45 (by simp)) (ho 64 (by simp)) (hr1.ext x18) hsz n0) fun v9 H9 hL => ?_
  obtain ⟨wd, we, m', rfl, fwd, fwe, x9, hm3, hm4⟩ := hL
  have x19 := x18.trans x9
  repeat' first | (simp only [op_lenS, lenSV_str, op_lenV, lenV_slice, op_toInt, toIntV_int, op_iaddrS, RetK_inv, RetK_inv_exit, RetK_inv_ret, Nat.add_assoc, Nat.reduceEqDiff, Nat.reduceBEq, Nat.reduceBNe, Nat.le_min, Nat.le_add_right, Nat.min_self, Int.reduceBEq, Int.reduceBNe, Int.reduceLT, Int.reduceLE, Int.reduceEq, beq_self_eq_true, bne_self_eq_false, Bool.not_true, Bool.not_false, decide_true, decide_false, decide_eq_true_eq, Bool.and_eq_true, List.mapM_cons, List.mapM_nil, Option.bind_eq_bind, Option.pure_def, aeqK_agg, aeqK_scal, leavesK_nil, leavesK_cons, leafK_i, leafK_b, leafK_s, DrawK_nil, DrawK_cons, DrawK_guard, DResK_some, DGuardK_tt, DGuardK_ff, DGuardK_tf, DGuardK_ft, DGuardK_u, kept_load, Kept, KeptOne, closeOp, CO.quiet, CO.reads, CodeK_seq, CodeK_region, CodeK_skip, CodeK_ret, CodeK_exit, CodeK_cond, CodeK_block, CondK_true, CondK_false, RunK_cons, RunK_nil, RunK_guard, GuardK_tt, GuardK_ff, GuardK_tf, GuardK_ft, GuardK_u, ResK_some, RetK_nil, RetK_seq, RetK_seq_exit, RetK_seq_ret, RetK_block, RetK_block_ret, RetK_block_exit, RetK_block_exit_ne, op_mv, op_un, op_bin, op_load, loadV_ptr, op_faddr, faddrV_ptr, op_pick, pickV_true, pickV_false, pickV_bool, pickV_same, op_box, boxV_agg, op_call, op_build, op_ext, op_alloc, op_store, storeV_ptr, List.all_cons, List.all_nil, AV.one, AV.cells, Bool.and_self, Bool.and_true, Bool.true_and, put, CA.ev, List.set_cons_zero, List.set_cons_succ, List.getD_cons_zero, List.getD_cons_succ, abin, aint, aun, isShift, Option.map_some, Option.bind_some, List.map_cons, List.map_nil, Hp.n_withLow, Hp.n_push, Hp.n_set, Hp.low_withLow, Hp.low_push, Hp.low_set, Hp.get_push, Hp.get_set, Hp.get_withLow, readVar, readCell, readCells, writeCells, cut, fillA, Bool.false_eq_true, if_false, if_true, reduceIte, List.getElem?_cons_zero, List.getElem?_cons_succ, Nat.zero_add, Nat.add_zero, Nat.reduceAdd, Nat.reduceSub, Nat.reduceLT, Nat.reduceLeDiff, Nat.reduceEqDiff, List.length_cons, List.length_nil, List.take_succ_cons, List.take_zero, List.drop_zero, List.drop_succ_cons, List.cons_append, List.nil_append, List.append_nil, DoneK, resAll, resOne, AV.under, AV.unders, and_true, true_and, and_self, or_true, true_or, cond_true, cond_false, Nat.le_refl, Nat.add_eq_left, Nat.left_eq_add, Nat.add_right_cancel_iff, Nat.add_left_cancel_iff, hlen, *]) | (refine GuardK_split (fun hb => ?_) (fun hb => ?_)) | (refine CondK_split (fun hb => ?_) (fun hb => ?_)) | (refine CodeK_regionD _ ?_) | (refine DGuardK_split (fun hb => ?_) (fun hb => ?_))
  refine ResK_ex (refdeal_any (ho 46 (by simp)) (ho 64 (by simp)) (hr1.ext x19) hsz hands each) fun v10 H10 hL => ?_
  obtain ⟨wf, wg, ws, rows', gl', er', rfl, x10, lwf, hwl, hwrow, fwg, hRG'⟩ := hL
  rw [← hRG] at hRG'
  replace hRG' := hRG'.symm
  simp only [Prod.mk.injEq] at hRG'
  obtain ⟨rfl, rfl, rfl⟩ := hRG'
  have x110 := x19.trans x10
  have lenF := lf.len
  have lenW := lwf.len
  rw [hvl] at lenF
  rw [hwl] at lenW
  repeat' first | (simp only [op_lenS, lenSV_str, op_lenV, lenV_slice, op_toInt, toIntV_int, op_iaddrS, RetK_inv, RetK_inv_exit, RetK_inv_ret, Nat.add_assoc, Nat.reduceEqDiff, Nat.reduceBEq, Nat.reduceBNe, Nat.le_min, Nat.le_add_right, Nat.min_self, Int.reduceBEq, Int.reduceBNe, Int.reduceLT, Int.reduceLE, Int.reduceEq, beq_self_eq_true, bne_self_eq_false, Bool.not_true, Bool.not_false, decide_true, decide_false, decide_eq_true_eq, Bool.and_eq_true, List.mapM_cons, List.mapM_nil, Option.bind_eq_bind, Option.pure_def, aeqK_agg, aeqK_scal, leavesK_nil, leavesK_cons, leafK_i, leafK_b, leafK_s, DrawK_nil, DrawK_cons, DrawK_guard, DResK_some, DGuardK_tt, DGuardK_ff, DGuardK_tf, DGuardK_ft, DGuardK_u, kept_load, Kept, KeptOne, closeOp, CO.quiet, CO.reads, CodeK_seq, CodeK_region, CodeK_skip, CodeK_ret, CodeK_exit, CodeK_cond, CodeK_block, CondK_true, CondK_false, RunK_cons, RunK_nil, RunK_guard, GuardK_tt, GuardK_ff, GuardK_tf, GuardK_ft, GuardK_u, ResK_some, RetK_nil, RetK_seq, RetK_seq_exit, RetK_seq_ret, RetK_block, RetK_block_ret, RetK_block_exit, RetK_block_exit_ne, op_mv, op_un, op_bin, op_load, loadV_ptr, op_faddr, faddrV_ptr, op_pick, pickV_true, pickV_false, pickV_bool, pickV_same, op_box, boxV_agg, op_call, op_build, op_ext, op_alloc, op_store, storeV_ptr, List.all_cons, List.all_nil, AV.one, AV.cells, Bool.and_self, Bool.and_true, Bool.true_and, put, CA.ev, List.set_cons_zero, List.set_cons_succ, List.getD_cons_zero, List.getD_cons_succ, abin, aint, aun, isShift, Option.map_some, Option.bind_some, List.map_cons, List.map_nil, Hp.n_withLow, Hp.n_push, Hp.n_set, Hp.low_withLow, Hp.low_push, Hp.low_set, Hp.get_push, Hp.get_set, Hp.get_withLow, readVar, readCell, readCells, writeCells, cut, fillA, Bool.false_eq_true, if_false, if_true, reduceIte, List.getElem?_cons_zero, List.getElem?_cons_succ, Nat.zero_add, Nat.add_zero, Nat.reduceAdd, Nat.reduceSub, Nat.reduceLT, Nat.reduceLeDiff, Nat.reduceEqDiff, List.length_cons, List.length_nil, List.take_succ_cons, List.take_zero, List.drop_zero, List.drop_succ_cons, List.cons_append, List.nil_append, List.append_nil, DoneK, resAll, resOne, AV.under, AV.unders, and_true, true_and, and_self, or_true, true_or, cond_true, cond_false, Nat.le_refl, Nat.add_eq_left, Nat.left_eq_add, Nat.add_right_cancel_iff, Nat.add_left_cancel_iff, hlen, lenF, lenW, bne_self_eq_false, *]) | (refine GuardK_split (fun hb => ?_) (fun hb => ?_)) | (refine CondK_split (fun hb => ?_) (fun hb => ?_)) | (refine CodeK_regionD _ ?_) | (refine DGuardK_split (fun hb => ?_) (fun hb => ?_))
  refine ResK_ex (kept_spec (ho 18 (by simp)) (ho 49 (by simp)) (ho 20 (by simp)) (rfull.ext x110) (hr1.ext x110) hl) fun v11 H11 hL => ?_
  obtain ⟨rfl, x11⟩ := hL
  have x111 := x110.trans x11
  repeat' first | (simp only [op_lenS, lenSV_str, op_lenV, lenV_slice, op_toInt, toIntV_int, op_iaddrS, RetK_inv, RetK_inv_exit, RetK_inv_ret, Nat.add_assoc, Nat.reduceEqDiff, Nat.reduceBEq, Nat.reduceBNe, Nat.le_min, Nat.le_add_right, Nat.min_self, Int.reduceBEq, Int.reduceBNe, Int.reduceLT, Int.reduceLE, Int.reduceEq, beq_self_eq_true, bne_self_eq_false, Bool.not_true, Bool.not_false, decide_true, decide_false, decide_eq_true_eq, Bool.and_eq_true, List.mapM_cons, List.mapM_nil, Option.bind_eq_bind, Option.pure_def, aeqK_agg, aeqK_scal, leavesK_nil, leavesK_cons, leafK_i, leafK_b, leafK_s, DrawK_nil, DrawK_cons, DrawK_guard, DResK_some, DGuardK_tt, DGuardK_ff, DGuardK_tf, DGuardK_ft, DGuardK_u, kept_load, Kept, KeptOne, closeOp, CO.quiet, CO.reads, CodeK_seq, CodeK_region, CodeK_skip, CodeK_ret, CodeK_exit, CodeK_cond, CodeK_block, CondK_true, CondK_false, RunK_cons, RunK_nil, RunK_guard, GuardK_tt, GuardK_ff, GuardK_tf, GuardK_ft, GuardK_u, ResK_some, RetK_nil, RetK_seq, RetK_seq_exit, RetK_seq_ret, RetK_block, RetK_block_ret, RetK_block_exit, RetK_block_exit_ne, op_mv, op_un, op_bin, op_load, loadV_ptr, op_faddr, faddrV_ptr, op_pick, pickV_true, pickV_false, pickV_bool, pickV_same, op_box, boxV_agg, op_call, op_build, op_ext, op_alloc, op_store, storeV_ptr, List.all_cons, List.all_nil, AV.one, AV.cells, Bool.and_self, Bool.and_true, Bool.true_and, put, CA.ev, List.set_cons_zero, List.set_cons_succ, List.getD_cons_zero, List.getD_cons_succ, abin, aint, aun, isShift, Option.map_some, Option.bind_some, List.map_cons, List.map_nil, Hp.n_withLow, Hp.n_push, Hp.n_set, Hp.low_withLow, Hp.low_push, Hp.low_set, Hp.get_push, Hp.get_set, Hp.get_withLow, readVar, readCell, readCells, writeCells, cut, fillA, Bool.false_eq_true, if_false, if_true, reduceIte, List.getElem?_cons_zero, List.getElem?_cons_succ, Nat.zero_add, Nat.add_zero, Nat.reduceAdd, Nat.reduceSub, Nat.reduceLT, Nat.reduceLeDiff, Nat.reduceEqDiff, List.length_cons, List.length_nil, List.take_succ_cons, List.take_zero, List.drop_zero, List.drop_succ_cons, List.cons_append, List.nil_append, List.append_nil, DoneK, resAll, resOne, AV.under, AV.unders, and_true, true_and, and_self, or_true, true_or, cond_true, cond_false, Nat.le_refl, Nat.add_eq_left, Nat.left_eq_add, Nat.add_right_cancel_iff, Nat.add_left_cancel_iff, hlen, *]) | (refine GuardK_split (fun hb => ?_) (fun hb => ?_)) | (refine CondK_split (fun hb => ?_) (fun hb => ?_)) | (refine CodeK_regionD _ ?_) | (refine DGuardK_split (fun hb => ?_) (fun hb => ?_))
  refine ResK_ex (over_spec (ho 19 (by simp)) (b := b0) (N := xs.length + 2) (cs := ints (xs ++ [-77, -77])) (by rw [x111.2 b0 n1, g0]) (by rw [ints_length]; simp) (by omega)) fun v12 H12 hL => ?_
  obtain ⟨k1, ⟨cs', k2, k3⟩, k4⟩ := hL
  have k1a : H11.n ≤ H12.n := by omega
  have k1b : H12.n ≤ H11.n := by omega
  clear k1
  have m2 := x2.1
  have m3 := x3.1
  have m4 := x4.1
  have m5 := x5.1
  have m6 := x6.1
  have m7 := x7.1
  have m8 := x8.1
  have m9 := x9.1
  have m10 := x10.1
  have m11 := x11.1
  have q10 : ∀ b, H1.n ≤ b → b < H10.n → H12.get b = H10.get b := fun b u1 u2 => by rw [k4 b (by omega), x11.2 b u2]
  have q9 : ∀ b, H1.n ≤ b → b < H9.n → H12.get b = H9.get b := fun b u1 u2 => by rw [q10 b u1 (by omega), x10.2 b u2]
  have q8 : ∀ b, H1.n ≤ b → b < H8.n → H12.get b = H8.get b := fun b u1 u2 => by rw [q9 b u1 (by omega), x9.2 b u2]
  have q7 : ∀ b, H1.n ≤ b → b < H7.n → H12.get b = H7.get b := fun b u1 u2 => by rw [q8 b u1 (by omega), x8.2 b u2]
  have q6 : ∀ b, H1.n ≤ b → b < H6.n → H12.get b = H6.get b := fun b u1 u2 => by rw [q7 b u1 (by omega), x7.2 b u2]
  have q5 : ∀ b, H1.n ≤ b → b < H5.n → H12.get b = H5.get b := fun b u1 u2 => by rw [q6 b u1 (by omega), x6.2 b u2]
  have q4 : ∀ b, H1.n ≤ b → b < H4.n → H12.get b = H4.get b := fun b u1 u2 => by rw [q5 b u1 (by omega), x5.2 b u2]
  have q3 : ∀ b, H1.n ≤ b → b < H3.n → H12.get b = H3.get b := fun b u1 u2 => by rw [q4 b u1 (by omega), x4.2 b u2]
  have q2 : ∀ b, H1.n ≤ b → b < H2.n → H12.get b = H2.get b := fun b u1 u2 => by rw [q3 b u1 (by omega), x3.2 b u2]
  have r7 : ∀ a : AV, Fs.reps [a] 7 = [a, a, a, a, a, a, a] := fun _ => rfl
  have o0 : ∀ a b c d e f g y : AV, Fs.over [a, b, c, d, e, f, g] 0 [y] = [y, b, c, d, e, f, g] := fun _ _ _ _ _ _ _ _ => rfl
  have o1 : ∀ a b c d e f g y : AV, Fs.over [a, b, c, d, e, f, g] 1 [y] = [a, y, c, d, e, f, g] := fun _ _ _ _ _ _ _ _ => rfl
  have o2 : ∀ a b c d e f g y : AV, Fs.over [a, b, c, d, e, f, g] 2 [y] = [a, b, y, d, e, f, g] := fun _ _ _ _ _ _ _ _ => rfl
  have o3 : ∀ a b c d e f g y : AV, Fs.over [a, b, c, d, e, f, g] 3 [y] = [a, b, c, y, e, f, g] := fun _ _ _ _ _ _ _ _ => rfl
  have o4 : ∀ a b c d e f g y : AV, Fs.over [a, b, c, d, e, f, g] 4 [y] = [a, b, c, d, y, f, g] := fun _ _ _ _ _ _ _ _ => rfl
  have o5 : ∀ a b c d e f g y : AV, Fs.over [a, b, c, d, e, f, g] 5 [y] = [a, b, c, d, e, y, g] := fun _ _ _ _ _ _ _ _ => rfl
  have o6 : ∀ a b c d e f g y : AV, Fs.over [a, b, c, d, e, f, g] 6 [y] = [a, b, c, d, e, f, y] := fun _ _ _ _ _ _ _ _ => rfl
  repeat' first | (simp only [op_lenS, lenSV_str, op_lenV, lenV_slice, op_toInt, toIntV_int, op_iaddrS, RetK_inv, RetK_inv_exit, RetK_inv_ret, Nat.add_assoc, Nat.reduceEqDiff, Nat.reduceBEq, Nat.reduceBNe, Nat.le_min, Nat.le_add_right, Nat.min_self, Int.reduceBEq, Int.reduceBNe, Int.reduceLT, Int.reduceLE, Int.reduceEq, beq_self_eq_true, bne_self_eq_false, Bool.not_true, Bool.not_false, decide_true, decide_false, decide_eq_true_eq, Bool.and_eq_true, List.mapM_cons, List.mapM_nil, Option.bind_eq_bind, Option.pure_def, aeqK_agg, aeqK_scal, leavesK_nil, leavesK_cons, leafK_i, leafK_b, leafK_s, DrawK_nil, DrawK_cons, DrawK_guard, DResK_some, DGuardK_tt, DGuardK_ff, DGuardK_tf, DGuardK_ft, DGuardK_u, kept_load, Kept, KeptOne, closeOp, CO.quiet, CO.reads, CodeK_seq, CodeK_region, CodeK_skip, CodeK_ret, CodeK_exit, CodeK_cond, CodeK_block, CondK_true, CondK_false, RunK_cons, RunK_nil, RunK_guard, GuardK_tt, GuardK_ff, GuardK_tf, GuardK_ft, GuardK_u, ResK_some, RetK_nil, RetK_seq, RetK_seq_exit, RetK_seq_ret, RetK_block, RetK_block_ret, RetK_block_exit, RetK_block_exit_ne, op_mv, op_un, op_bin, op_load, loadV_ptr, op_faddr, faddrV_ptr, op_pick, pickV_true, pickV_false, pickV_bool, pickV_same, op_box, boxV_agg, op_call, op_build, op_ext, op_alloc, op_store, storeV_ptr, List.all_cons, List.all_nil, AV.one, AV.cells, Bool.and_self, Bool.and_true, Bool.true_and, put, CA.ev, List.set_cons_zero, List.set_cons_succ, List.getD_cons_zero, List.getD_cons_succ, abin, aint, aun, isShift, Option.map_some, Option.bind_some, List.map_cons, List.map_nil, Hp.n_withLow, Hp.n_push, Hp.n_set, Hp.low_withLow, Hp.low_push, Hp.low_set, Hp.get_push, Hp.get_set, Hp.get_withLow, readVar, readCell, readCells, writeCells, cut, fillA, Bool.false_eq_true, if_false, if_true, reduceIte, List.getElem?_cons_zero, List.getElem?_cons_succ, Nat.zero_add, Nat.add_zero, Nat.reduceAdd, Nat.reduceSub, Nat.reduceLT, Nat.reduceLeDiff, Nat.reduceEqDiff, List.length_cons, List.length_nil, List.take_succ_cons, List.take_zero, List.drop_zero, List.drop_succ_cons, List.cons_append, List.nil_append, List.append_nil, DoneK, resAll, resOne, AV.under, AV.unders, and_true, true_and, and_self, or_true, true_or, cond_true, cond_false, Nat.le_refl, Nat.add_eq_left, Nat.left_eq_add, Nat.add_right_cancel_iff, Nat.add_left_cancel_iff, op_litS, fillA, r7, o0, o1, o2, o3, o4, o5, o6, *]) | (refine GuardK_split (fun hb => ?_) (fun hb => ?_)) | (refine CondK_split (fun hb => ?_) (fun hb => ?_)) | (refine CodeK_regionD _ ?_) | (refine DGuardK_split (fun hb => ?_) (fun hb => ?_))
  refine CodeK_loop (InvT H12 [.slice (some (b0, 0)) (xs.length + 2) (.exact (xs.length + 2)), AV.slice aA xs.tail.length cA, AV.slice aB (xs ++ [x]).length cB, AV.slice aC (outL x xs).length cC, AV.slice aD (cutL n0 xs).length cD, AV.slice aE (cutG n0 xs).length cE, AV.slice aG gl.length cG] vs [(0, v), (1, .int .i64 x), (14, AV.slice aA xs.tail.length cA), (16, AV.slice aB (xs ++ [x]).length cB), (17, AV.slice aC (outL x xs).length cC), (19, AV.slice aD (cutL n0 xs).length cD), (20, AV.slice aE (cutG n0 xs).length cE), (22, f), (23, AV.slice aG gl.length cG), (26, wa), (28, wc), (30, wd), (31, we), (33, wf), (34, wg)]) vs.length ?_ ?_
  · refine ⟨rfl, fun p hp => ?_, ⟨0, by omega, by omega, rfl, H12.n, .exact 7, Nat.le_refl _, by simp, .inr rfl, rfl, by simp, by simp⟩, fun b hb => Hp.get_push_ne _ _ _ (by omega), by simp⟩
    simp only [List.mem_cons, List.mem_nil_iff, or_false] at hp
    rcases hp with rfl | rfl | rfl | rfl | rfl | rfl | rfl | rfl | rfl | rfl | rfl | rfl | rfl | rfl | rfl <;> rfl
  intro n tm H I
  obtain ⟨i, hn, hi, e37, hall⟩ := I.st
  have el := I.len
  have hts := I.ts
  simp only [List.mem_cons, List.mem_nil_iff, or_false] at hts
  have e0 := hts (0, v) (by simp)
  have e1 := hts (1, .int .i64 x) (by simp)
  have e14 := hts (14, AV.slice aA xs.tail.length cA) (by simp)
  have e16 := hts (16, AV.slice aB (xs ++ [x]).length cB) (by simp)
  have e17 := hts (17, AV.slice aC (outL x xs).length cC) (by simp)
  have e19 := hts (19, AV.slice aD (cutL n0 xs).length cD) (by simp)
  have e20 := hts (20, AV.slice aE (cutG n0 xs).length cE) (by simp)
  have e22 := hts (22, f) (by simp)
  have e23 := hts (23, AV.slice aG gl.length cG) (by simp)
  have e26 := hts (26, wa) (by simp)
  have e28 := hts (28, wc) (by simp)
  have e30 := hts (30, wd) (by simp)
  have e31 := hts (31, we) (by simp)
  have e33 := hts (33, wf) (by simp)
  have e34 := hts (34, wg) (by simp)
  simp only at e0 e1 e14 e16 e17 e19 e20 e22 e23 e26 e28 e30 e31 e33 e34
  have hkeep := I.keep
  have hnn := I.nn
  generalize e36 : tm.getD 36 AV.undef = al at hall
  have p2 : ∀ b, H1.n ≤ b → b < H2.n → H.get b = H2.get b := fun b u1 u2 => by rw [hkeep b (by omega), q2 b u1 u2]
  have p3 : ∀ b, H1.n ≤ b → b < H3.n → H.get b = H3.get b := fun b u1 u2 => by rw [hkeep b (by omega), q3 b u1 u2]
  have p4 : ∀ b, H1.n ≤ b → b < H4.n → H.get b = H4.get b := fun b u1 u2 => by rw [hkeep b (by omega), q4 b u1 u2]
  have p5 : ∀ b, H1.n ≤ b → b < H5.n → H.get b = H5.get b := fun b u1 u2 => by rw [hkeep b (by omega), q5 b u1 u2]
  have p6 : ∀ b, H1.n ≤ b → b < H6.n → H.get b = H6.get b := fun b u1 u2 => by rw [hkeep b (by omega), q6 b u1 u2]
  have p7 : ∀ b, H1.n ≤ b → b < H7.n → H.get b = H7.get b := fun b u1 u2 => by rw [hkeep b (by omega), q7 b u1 u2]
  have p8 : ∀ b, H1.n ≤ b → b < H8.n → H.get b = H8.get b := fun b u1 u2 => by rw [hkeep b (by omega), q8 b u1 u2]
  have p9 : ∀ b, H1.n ≤ b → b < H9.n → H.get b = H9.get b := fun b u1 u2 => by rw [hkeep b (by omega), q9 b u1 u2]
  have p10 : ∀ b, H1.n ≤ b → b < H10.n → H.get b = H10.get b := fun b u1 u2 => by rw [hkeep b (by omega), q10 b u1 u2]
  by_cases hlt : i < rows.length
  case pos =>
    have l1 : decide ((i : Int) < (rows.length : Int)) = true := by simp; omega
    have hxr := List.getElem?_eq_getElem hlt
    generalize rows[i]'hlt = xr at hxr
    obtain ⟨vj, u1, u2, u3⟩ := hrow i xr hxr
    obtain ⟨wj, y1, y2⟩ := hwrow i xr hxr
    obtain ⟨bf, cf, rof, ia, gf, gif, _, hbf⟩ := (lf.keep (h' := H) (by omega) fun b z1 z2 => p6 b (by omega) z2).get i vj u1
    obtain ⟨bw, cw, row, iw, gw, giw, _, hbw⟩ := (lwf.keep (h' := H) (by omega) fun b z1 z2 => p10 b (by omega) z2).get i wj y1
    have c1 := same_spec (orc := orc) (ho 20 (by simp)) (u2.rowAt (h' := H) (by omega) fun b z1 z2 => p6 b (by omega) z2) (y2.keep (h' := H) (by omega) fun b z1 z2 => p10 b (by omega) z2).row (by omega)
    obtain ⟨aJ, cJ, rfl⟩ := u2.one
    have w1 : IntKind.wrap .i64 ((i : Int) + 1) = ((i + 1 : Nat) : Int) := by rw [wrap_i64 (by omega) (by omega)]; omega
    have oo : ∀ a y : AV, Fs.over [a] 0 [y] = [y] := fun _ _ => rfl
    have r1 : ∀ a : AV, Fs.reps [a] 1 = [a] := fun _ => rfl
    repeat' first | (simp only [op_lenS, lenSV_str, op_lenV, lenV_slice, op_toInt, toIntV_int, op_iaddrS, RetK_inv, RetK_inv_exit, RetK_inv_ret, Nat.add_assoc, Nat.reduceEqDiff, Nat.reduceBEq, Nat.reduceBNe, Nat.le_min, Nat.le_add_right, Nat.min_self, Int.reduceBEq, Int.reduceBNe, Int.reduceLT, Int.reduceLE, Int.reduceEq, beq_self_eq_true, bne_self_eq_false, Bool.not_true, Bool.not_false, decide_true, decide_false, decide_eq_true_eq, Bool.and_eq_true, List.mapM_cons, List.mapM_nil, Option.bind_eq_bind, Option.pure_def, aeqK_agg, aeqK_scal, leavesK_nil, leavesK_cons, leafK_i, leafK_b, leafK_s, DrawK_nil, DrawK_cons, DrawK_guard, DResK_some, DGuardK_tt, DGuardK_ff, DGuardK_tf, DGuardK_ft, DGuardK_u, kept_load, Kept, KeptOne, closeOp, CO.quiet, CO.reads, CodeK_seq, CodeK_region, CodeK_skip, CodeK_ret, CodeK_exit, CodeK_cond, CodeK_block, CondK_true, CondK_false, RunK_cons, RunK_nil, RunK_guard, GuardK_tt, GuardK_ff, GuardK_tf, GuardK_ft, GuardK_u, ResK_some, RetK_nil, RetK_seq, RetK_seq_exit, RetK_seq_ret, RetK_block, RetK_block_ret, RetK_block_exit, RetK_block_exit_ne, op_mv, op_un, op_bin, op_load, loadV_ptr, op_faddr, faddrV_ptr, op_pick, pickV_true, pickV_false, pickV_bool, pickV_same, op_box, boxV_agg, op_call, op_build, op_ext, op_alloc, op_store, storeV_ptr, List.all_cons, List.all_nil, AV.one, AV.cells, Bool.and_self, Bool.and_true, Bool.true_and, put, CA.ev, List.set_cons_zero, List.set_cons_succ, List.getD_cons_zero, List.getD_cons_succ, abin, aint, aun, isShift, Option.map_some, Option.bind_some, List.map_cons, List.map_nil, Hp.n_withLow, Hp.n_push, Hp.n_set, Hp.low_withLow, Hp.low_push, Hp.low_set, Hp.get_push, Hp.get_set, Hp.get_withLow, readVar, readCell, readCells, writeCells, cut, fillA, Bool.false_eq_true, if_false, if_true, reduceIte, List.getElem?_cons_zero, List.getElem?_cons_succ, Nat.zero_add, Nat.add_zero, Nat.reduceAdd, Nat.reduceSub, Nat.reduceLT, Nat.reduceLeDiff, Nat.reduceEqDiff, List.length_cons, List.length_nil, List.take_succ_cons, List.take_zero, List.drop_zero, List.drop_succ_cons, List.cons_append, List.nil_append, List.append_nil, DoneK, resAll, resOne, AV.under, AV.unders, and_true, true_and, and_self, or_true, true_or, cond_true, cond_false, Nat.le_refl, Nat.add_eq_left, Nat.left_eq_add, Nat.add_right_cancel_iff, Nat.add_left_cancel_iff, el, e22, e33, e36, e37, lenF, l1, ia, iw, gf, gif, gw, giw, c1, op_litS, fillA, oo, r1, op_append, tmset_self, tmset_ne, List.length_set, Nat.reduceBEq, Nat.reduceLT, *]) | (refine GuardK_split (fun hb => ?_) (fun hb => ?_)) | (refine CondK_split (fun hb => ?_) (fun hb => ?_)) | (refine CodeK_regionD _ ?_) | (refine DGuardK_split (fun hb => ?_) (fun hb => ?_))
    have hll : ([.slice (some (b0, 0)) (xs.length + 2) (.exact (xs.length + 2)), AV.slice aA xs.tail.length cA, AV.slice aB (xs ++ [x]).length cB, AV.slice aC (outL x xs).length cC, AV.slice aD (cutL n0 xs).length cD, AV.slice aE (cutG n0 xs).length cE, AV.slice aG gl.length cG] ++ vs.take i).length ≤ 7 + i := by simp; omega
    refine ResK_ex (app_all (N := H12.n) (R := [.slice (some (b0, 0)) (xs.length + 2) (.exact (xs.length + 2)), AV.slice aA xs.tail.length cA, AV.slice aB (xs ++ [x]).length cB, AV.slice aC (outL x xs).length cC, AV.slice aD (cutL n0 xs).length cD, AV.slice aE (cutG n0 xs).length cE, AV.slice aG gl.length cG] ++ vs.take i) ?_ (by simp; omega) rfl (by omega) (by omega) (Hp.get_push_self _ _)) fun v2 h2 hL => ?_
    · obtain ⟨b, cap, z1, z2, z3, z4, z5, z6⟩ := hall
      exact ⟨b, cap, z1, by simp; omega, z3, z4, by rw [Hp.get_push_ne _ _ _ (by omega), z5], z6⟩
    obtain ⟨z1, z2, z3⟩ := hL
    simp only [Hp.n_push] at z2
    rw [List.append_assoc, show vs.take i ++ [AV.slice aJ xr.length cJ] = vs.take (i + 1) by rw [List.take_add_one, u1]; rfl] at z1
    repeat' first | (simp only [op_lenS, lenSV_str, op_lenV, lenV_slice, op_toInt, toIntV_int, op_iaddrS, RetK_inv, RetK_inv_exit, RetK_inv_ret, Nat.add_assoc, Nat.reduceEqDiff, Nat.reduceBEq, Nat.reduceBNe, Nat.le_min, Nat.le_add_right, Nat.min_self, Int.reduceBEq, Int.reduceBNe, Int.reduceLT, Int.reduceLE, Int.reduceEq, beq_self_eq_true, bne_self_eq_false, Bool.not_true, Bool.not_false, decide_true, decide_false, decide_eq_true_eq, Bool.and_eq_true, List.mapM_cons, List.mapM_nil, Option.bind_eq_bind, Option.pure_def, aeqK_agg, aeqK_scal, leavesK_nil, leavesK_cons, leafK_i, leafK_b, leafK_s, DrawK_nil, DrawK_cons, DrawK_guard, DResK_some, DGuardK_tt, DGuardK_ff, DGuardK_tf, DGuardK_ft, DGuardK_u, kept_load, Kept, KeptOne, closeOp, CO.quiet, CO.reads, CodeK_seq, CodeK_region, CodeK_skip, CodeK_ret, CodeK_exit, CodeK_cond, CodeK_block, CondK_true, CondK_false, RunK_cons, RunK_nil, RunK_guard, GuardK_tt, GuardK_ff, GuardK_tf, GuardK_ft, GuardK_u, ResK_some, RetK_nil, RetK_seq, RetK_seq_exit, RetK_seq_ret, RetK_block, RetK_block_ret, RetK_block_exit, RetK_block_exit_ne, op_mv, op_un, op_bin, op_load, loadV_ptr, op_faddr, faddrV_ptr, op_pick, pickV_true, pickV_false, pickV_bool, pickV_same, op_box, boxV_agg, op_call, op_build, op_ext, op_alloc, op_store, storeV_ptr, List.all_cons, List.all_nil, AV.one, AV.cells, Bool.and_self, Bool.and_true, Bool.true_and, put, CA.ev, List.set_cons_zero, List.set_cons_succ, List.getD_cons_zero, List.getD_cons_succ, abin, aint, aun, isShift, Option.map_some, Option.bind_some, List.map_cons, List.map_nil, Hp.n_withLow, Hp.n_push, Hp.n_set, Hp.low_withLow, Hp.low_push, Hp.low_set, Hp.get_push, Hp.get_set, Hp.get_withLow, readVar, readCell, readCells, writeCells, cut, fillA, Bool.false_eq_true, if_false, if_true, reduceIte, List.getElem?_cons_zero, List.getElem?_cons_succ, Nat.zero_add, Nat.add_zero, Nat.reduceAdd, Nat.reduceSub, Nat.reduceLT, Nat.reduceLeDiff, Nat.reduceEqDiff, List.length_cons, List.length_nil, List.take_succ_cons, List.take_zero, List.drop_zero, List.drop_succ_cons, List.cons_append, List.nil_append, List.append_nil, DoneK, resAll, resOne, AV.under, AV.unders, and_true, true_and, and_self, or_true, true_or, cond_true, cond_false, Nat.le_refl, Nat.add_eq_left, Nat.left_eq_add, Nat.add_right_cancel_iff, Nat.add_left_cancel_iff, el, e36, e37, w1, tmset_self, tmset_ne, List.length_set, Nat.reduceBEq, Nat.reduceLT, *]) | (refine GuardK_split (fun hb => ?_) (fun hb => ?_)) | (refine CondK_split (fun hb => ?_) (fun hb => ?_)) | (refine CodeK_regionD _ ?_) | (refine DGuardK_split (fun hb => ?_) (fun hb => ?_))
    refine ⟨vs.length - (i + 1), by omega, by simp only [List.length_set, el], fun p hp => ?_, ⟨i + 1, rfl, by omega, by simp only [tmset_self, tmset_ne, List.length_set, Nat.reduceBEq, Nat.reduceLT, el], by simp only [tmset_self, tmset_ne, List.length_set, Nat.reduceBEq, Nat.reduceLT, el]; exact z1⟩, fun b hb => by rw [z3 b hb, Hp.get_push_ne _ _ _ (by omega), hkeep b hb], by omega⟩
    simp only [List.mem_cons, List.mem_nil_iff, or_false] at hp
    rcases hp with rfl | rfl | rfl | rfl | rfl | rfl | rfl | rfl | rfl | rfl | rfl | rfl | rfl | rfl | rfl <;> simp only [tmset_self, tmset_ne, List.length_set, Nat.reduceBEq, Nat.reduceLT, el, e0, e1, e14, e16, e17, e19, e20, e22, e23, e26, e28, e30, e31, e33, e34]
  case neg =>
  obtain rfl : i = rows.length := by omega
  have l1 : decide ((rows.length : Int) < (rows.length : Int)) = false := by simp
  have htk : vs.take rows.length = vs := List.take_of_length_le (by omega)
  rw [htk] at hall
  obtain ⟨bL, cap, z1, z2, z3, rfl, z5, _⟩ := hall
  have tl : xs.tail.length ≤ xs.length := by simp
  have sa := same_spec (orc := orc) (ho 20 (by simp)) (fa.keep (h' := H) (by omega) fun b u1 u2 => p2 b u1 u2).row (fwa.keep (h' := H) (by omega) fun b u1 u2 => p7 b (by omega) u2).row (by omega)
  repeat' first | (simp only [op_lenS, lenSV_str, op_lenV, lenV_slice, op_toInt, toIntV_int, op_iaddrS, RetK_inv, RetK_inv_exit, RetK_inv_ret, Nat.add_assoc, Nat.reduceEqDiff, Nat.reduceBEq, Nat.reduceBNe, Nat.le_min, Nat.le_add_right, Nat.min_self, Int.reduceBEq, Int.reduceBNe, Int.reduceLT, Int.reduceLE, Int.reduceEq, beq_self_eq_true, bne_self_eq_false, Bool.not_true, Bool.not_false, decide_true, decide_false, decide_eq_true_eq, Bool.and_eq_true, List.mapM_cons, List.mapM_nil, Option.bind_eq_bind, Option.pure_def, aeqK_agg, aeqK_scal, leavesK_nil, leavesK_cons, leafK_i, leafK_b, leafK_s, DrawK_nil, DrawK_cons, DrawK_guard, DResK_some, DGuardK_tt, DGuardK_ff, DGuardK_tf, DGuardK_ft, DGuardK_u, kept_load, Kept, KeptOne, closeOp, CO.quiet, CO.reads, CodeK_seq, CodeK_region, CodeK_skip, CodeK_ret, CodeK_exit, CodeK_cond, CodeK_block, CondK_true, CondK_false, RunK_cons, RunK_nil, RunK_guard, GuardK_tt, GuardK_ff, GuardK_tf, GuardK_ft, GuardK_u, ResK_some, RetK_nil, RetK_seq, RetK_seq_exit, RetK_seq_ret, RetK_block, RetK_block_ret, RetK_block_exit, RetK_block_exit_ne, op_mv, op_un, op_bin, op_load, loadV_ptr, op_faddr, faddrV_ptr, op_pick, pickV_true, pickV_false, pickV_bool, pickV_same, op_box, boxV_agg, op_call, op_build, op_ext, op_alloc, op_store, storeV_ptr, List.all_cons, List.all_nil, AV.one, AV.cells, Bool.and_self, Bool.and_true, Bool.true_and, put, CA.ev, List.set_cons_zero, List.set_cons_succ, List.getD_cons_zero, List.getD_cons_succ, abin, aint, aun, isShift, Option.map_some, Option.bind_some, List.map_cons, List.map_nil, Hp.n_withLow, Hp.n_push, Hp.n_set, Hp.low_withLow, Hp.low_push, Hp.low_set, Hp.get_push, Hp.get_set, Hp.get_withLow, readVar, readCell, readCells, writeCells, cut, fillA, Bool.false_eq_true, if_false, if_true, reduceIte, List.getElem?_cons_zero, List.getElem?_cons_succ, Nat.zero_add, Nat.add_zero, Nat.reduceAdd, Nat.reduceSub, Nat.reduceLT, Nat.reduceLeDiff, Nat.reduceEqDiff, List.length_cons, List.length_nil, List.take_succ_cons, List.take_zero, List.drop_zero, List.drop_succ_cons, List.cons_append, List.nil_append, List.append_nil, DoneK, resAll, resOne, AV.under, AV.unders, and_true, true_and, and_self, or_true, true_or, cond_true, cond_false, Nat.le_refl, Nat.add_eq_left, Nat.left_eq_add, Nat.add_right_cancel_iff, Nat.add_left_cancel_iff, el, e14, e26, e22, e16, e0, e1, e36, e37, lenF, l1, sa, tmset_self, tmset_ne, List.length_set, Nat.reduceBEq, Nat.reduceLT, *]) | (refine GuardK_split (fun hb => ?_) (fun hb => ?_)) | (refine CondK_split (fun hb => ?_) (fun hb => ?_)) | (refine CodeK_regionD _ ?_) | (refine DGuardK_split (fun hb => ?_) (fun hb => ?_))
  have hrH : IntRow H v xs := by
    obtain ⟨a, c, h2, h3, h4⟩ := hr
    refine ⟨a, c, h2, h3, h4.imp id ?_⟩
    rintro ⟨b, o, cells, ro, u1, u2, u3, u4⟩
    refine ⟨b, o, cells, ro, u1, by omega, ?_, u4⟩
    rw [hkeep b (by omega), k4 b (by omega), x111.2 b (by omega), x1.2 b (by simpa using u2)]
    simpa using u3
  refine ResK_ex (refunder_spec (ho 47 (by simp)) (ho 64 (by simp)) hrH (by omega) x) fun vu HU hL => ?_
  obtain ⟨fu, xu⟩ := hL
  have mu := xu.1
  have outl : (outL x xs).length ≤ 1152921504606846976 := by
    unfold outL
    split
    · simp
    · rw [List.length_append, List.length_take, List.length_drop]; omega
  have cutl : (cutL n0 xs).length ≤ 1152921504606846976 := by
    unfold cutL
    cases cutB n0 xs
    · simp only [cond_false, List.length_take]; omega
    · simp
  have cutg : (cutG n0 xs).length ≤ 1152921504606846976 := by
    unfold cutG
    cases cutB n0 xs
    · simp only [cond_false, List.length_drop]; omega
    · simp
  have t3 : ∀ b, H1.n ≤ b → b < H3.n → HU.get b = H3.get b := fun b u1 u2 => by rw [xu.2 b (by omega), p3 b u1 u2]
  have t4 : ∀ b, H1.n ≤ b → b < H4.n → HU.get b = H4.get b := fun b u1 u2 => by rw [xu.2 b (by omega), p4 b u1 u2]
  have t5 : ∀ b, H1.n ≤ b → b < H5.n → HU.get b = H5.get b := fun b u1 u2 => by rw [xu.2 b (by omega), p5 b u1 u2]
  have t6 : ∀ b, H1.n ≤ b → b < H6.n → HU.get b = H6.get b := fun b u1 u2 => by rw [xu.2 b (by omega), p6 b u1 u2]
  have t8 : ∀ b, H1.n ≤ b → b < H8.n → HU.get b = H8.get b := fun b u1 u2 => by rw [xu.2 b (by omega), p8 b u1 u2]
  have t9 : ∀ b, H1.n ≤ b → b < H9.n → HU.get b = H9.get b := fun b u1 u2 => by rw [xu.2 b (by omega), p9 b u1 u2]
  have t10 : ∀ b, H1.n ≤ b → b < H10.n → HU.get b = H10.get b := fun b u1 u2 => by rw [xu.2 b (by omega), p10 b u1 u2]
  have sb := same_spec (orc := orc) (ho 20 (by simp)) (fb.keep (h' := HU) (by omega) fun b u1 u2 => t3 b (by omega) u2).row fu.row (by simp; omega)
  have sc := same_spec (orc := orc) (ho 20 (by simp)) (fc.keep (h' := HU) (by omega) fun b u1 u2 => t4 b (by omega) u2).row (fwc.keep (h' := HU) (by omega) fun b u1 u2 => t8 b (by omega) u2).row outl
  have sd := same_spec (orc := orc) (ho 20 (by simp)) (fd.row (h' := HU) (by omega) fun b u1 u2 => t5 b (by omega) (by omega)) (fwd.row (h' := HU) (by omega) fun b u1 u2 => t9 b (by omega) (by omega)) cutl
  have se := same_spec (orc := orc) (ho 20 (by simp)) (fe.row (h' := HU) (by omega) fun b u1 u2 => t5 b (by omega) u2) (fwe.row (h' := HU) (by omega) fun b u1 u2 => t9 b (by omega) u2) cutg
  have sg := same_spec (orc := orc) (ho 20 (by simp)) (fg.rowAt (h' := HU) (by omega) fun b u1 u2 => t6 b (by omega) u2) (fwg.keep (h' := HU) (by omega) fun b u1 u2 => t10 b (by omega) u2).row (by omega)
  obtain ⟨h7, e7⟩ := apart_ok (h := HU) (esz := 1) (bL := bL) (m := rows.length + 7) (L := [.slice (some (b0, 0)) (xs.length + 2) (.exact (xs.length + 2)), AV.slice aA xs.tail.length cA, AV.slice aB (xs ++ [x]).length cB, AV.slice aC (outL x xs).length cC, AV.slice aD (cutL n0 xs).length cD, AV.slice aE (cutG n0 xs).length cE, AV.slice aG gl.length cG] ++ vs) (cap := cap) (ro := false) (by rw [xu.2 bL z2, z5]) (by simp [hvl]) (by omega)
    (fun b => if b < H1.n then 0 else if b < H2.n then 1 else if b < H3.n then 2 else if b < H4.n then 3 else if b < m then 4 else if b < H5.n then 5 else if own b = rows.length + 1 then 6 else 7 + own b) (fun i y hy => by
      match i with
      | 0 =>
        cases hy
        refine ⟨some b0, full_apart (cs := cs') (by rw [xu.2 b0 (by omega), hkeep b0 (by omega), k2]) k3 (by omega), fun b hb => ?_⟩
        cases hb
        exact ⟨if_pos n1, by omega⟩
      | 1 =>
        cases hy
        obtain ⟨ob, j1, j2⟩ := fa.ends (h' := HU) (by omega) fun b u1 u2 => by rw [xu.2 b (by omega), p2 b u1 u2]
        refine ⟨ob, j1, fun b hb => ?_⟩
        have := j2 b hb
        exact ⟨by rw [if_neg (by omega), if_pos (by omega)], by omega⟩
      | 2 =>
        cases hy
        obtain ⟨ob, j1, j2⟩ := fb.ends (h' := HU) (by omega) fun b u1 u2 => t3 b (by omega) u2
        refine ⟨ob, j1, fun b hb => ?_⟩
        have := j2 b hb
        exact ⟨by rw [if_neg (by omega), if_neg (by omega), if_pos (by omega)], by omega⟩
      | 3 =>
        cases hy
        obtain ⟨ob, j1, j2⟩ := fc.ends (h' := HU) (by omega) fun b u1 u2 => t4 b (by omega) u2
        refine ⟨ob, j1, fun b hb => ?_⟩
        have := j2 b hb
        exact ⟨by rw [if_neg (by omega), if_neg (by omega), if_neg (by omega), if_pos (by omega)], by omega⟩
      | 4 =>
        cases hy
        obtain ⟨ob, j1, j2⟩ := (fd.keep (h' := HU) fun b u1 u2 => t5 b (by omega) (by omega)).apart
        refine ⟨ob, j1, fun b hb => ?_⟩
        have := j2 b hb
        exact ⟨by rw [if_neg (by omega), if_neg (by omega), if_neg (by omega), if_neg (by omega), if_pos (by omega)], by omega⟩
      | 5 =>
        cases hy
        obtain ⟨ob, j1, j2⟩ := (fe.keep (h' := HU) fun b u1 u2 => t5 b (by omega) u2).apart
        refine ⟨ob, j1, fun b hb => ?_⟩
        have := j2 b hb
        exact ⟨by rw [if_neg (by omega), if_neg (by omega), if_neg (by omega), if_neg (by omega), if_neg (by omega), if_pos (by omega)], by omega⟩
      | 6 =>
        cases hy
        obtain ⟨ob, j1, j2⟩ := fg.apart (h' := HU) fun b u1 u2 => t6 b (by omega) u2
        refine ⟨ob, j1, fun b hb => ?_⟩
        have := j2 b hb
        exact ⟨by rw [if_neg (by omega), if_neg (by omega), if_neg (by omega), if_neg (by omega), if_neg (by omega), if_neg (by omega), if_pos this.2.2], by omega⟩
      | i + 7 =>
        have hy' : vs[i]? = some y := hy
        have hiv : i < rows.length := by rw [← hvl]; exact (List.getElem?_eq_some_iff.1 hy').1
        obtain ⟨vj, u1, u2, _⟩ := hrow i _ (List.getElem?_eq_getElem hiv)
        rw [hy'] at u1
        cases u1
        obtain ⟨ob, j1, j2⟩ := u2.apart (h' := HU) fun b u1 u2 => t6 b (by omega) u2
        refine ⟨ob, j1, fun b hb => ?_⟩
        have := j2 b hb
        exact ⟨by rw [if_neg (by omega), if_neg (by omega), if_neg (by omega), if_neg (by omega), if_neg (by omega), if_neg (by omega), if_neg (by rw [this.2.2]; omega), this.2.2]; omega, by omega⟩)
  have c4 := acall_orc (tbl := T) hA e7
  repeat' first | (simp only [op_lenS, lenSV_str, op_lenV, lenV_slice, op_toInt, toIntV_int, op_iaddrS, RetK_inv, RetK_inv_exit, RetK_inv_ret, Nat.add_assoc, Nat.reduceEqDiff, Nat.reduceBEq, Nat.reduceBNe, Nat.le_min, Nat.le_add_right, Nat.min_self, Int.reduceBEq, Int.reduceBNe, Int.reduceLT, Int.reduceLE, Int.reduceEq, beq_self_eq_true, bne_self_eq_false, Bool.not_true, Bool.not_false, decide_true, decide_false, decide_eq_true_eq, Bool.and_eq_true, List.mapM_cons, List.mapM_nil, Option.bind_eq_bind, Option.pure_def, aeqK_agg, aeqK_scal, leavesK_nil, leavesK_cons, leafK_i, leafK_b, leafK_s, DrawK_nil, DrawK_cons, DrawK_guard, DResK_some, DGuardK_tt, DGuardK_ff, DGuardK_tf, DGuardK_ft, DGuardK_u, kept_load, Kept, KeptOne, closeOp, CO.quiet, CO.reads, CodeK_seq, CodeK_region, CodeK_skip, CodeK_ret, CodeK_exit, CodeK_cond, CodeK_block, CondK_true, CondK_false, RunK_cons, RunK_nil, RunK_guard, GuardK_tt, GuardK_ff, GuardK_tf, GuardK_ft, GuardK_u, ResK_some, RetK_nil, RetK_seq, RetK_seq_exit, RetK_seq_ret, RetK_block, RetK_block_ret, RetK_block_exit, RetK_block_exit_ne, op_mv, op_un, op_bin, op_load, loadV_ptr, op_faddr, faddrV_ptr, op_pick, pickV_true, pickV_false, pickV_bool, pickV_same, op_box, boxV_agg, op_call, op_build, op_ext, op_alloc, op_store, storeV_ptr, List.all_cons, List.all_nil, AV.one, AV.cells, Bool.and_self, Bool.and_true, Bool.true_and, put, CA.ev, List.set_cons_zero, List.set_cons_succ, List.getD_cons_zero, List.getD_cons_succ, abin, aint, aun, isShift, Option.map_some, Option.bind_some, List.map_cons, List.map_nil, Hp.n_withLow, Hp.n_push, Hp.n_set, Hp.low_withLow, Hp.low_push, Hp.low_set, Hp.get_push, Hp.get_set, Hp.get_withLow, readVar, readCell, readCells, writeCells, cut, fillA, Bool.false_eq_true, if_false, if_true, reduceIte, List.getElem?_cons_zero, List.getElem?_cons_succ, Nat.zero_add, Nat.add_zero, Nat.reduceAdd, Nat.reduceSub, Nat.reduceLT, Nat.reduceLeDiff, Nat.reduceEqDiff, List.length_cons, List.length_nil, List.take_succ_cons, List.take_zero, List.drop_zero, List.drop_succ_cons, List.cons_append, List.nil_append, List.append_nil, DoneK, resAll, resOne, AV.under, AV.unders, and_true, true_and, and_self, or_true, true_or, cond_true, cond_false, Nat.le_refl, Nat.add_eq_left, Nat.left_eq_add, Nat.add_right_cancel_iff, Nat.add_left_cancel_iff, el, e16, e17, e28, e19, e30, e20, e31, e23, e34, e36, sb, sc, sd, se, sg, c4, Option.some.injEq, tmset_self, tmset_ne, List.length_set, Nat.reduceBEq, Nat.reduceLT, *]) | (refine GuardK_split (fun hb => ?_) (fun hb => ?_)) | (refine CondK_split (fun hb => ?_) (fun hb => ?_)) | (refine CodeK_regionD _ ?_) | (refine DGuardK_split (fun hb => ?_) (fun hb => ?_))
  exact ⟨_, rfl, rfl⟩
end Go.Proofs.Po
