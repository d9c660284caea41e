/- Shuffling: of every list and state; what was handed in stays; each answer is new memory. -/
import Derived.Test.YtnhkllnggpncfaaPsRef
namespace Go.Proofs.Po
open Go Go.Fs
set_option linter.unusedSimpArgs false
set_option linter.unusedVariables false
variable {orc : Orc}

theorem nodup_of : ∀ {obs : List (Option Nat)}, (∀ (i j b : Nat), obs[i]? = some (some b) → obs[j]? = some (some b) → i = j) → (obs.filterMap id).Nodup
  | [], _ => by simp
  | o :: obs, h => by
    have ih : (obs.filterMap id).Nodup := nodup_of fun i j b hi hj => by
      have := h (i + 1) (j + 1) b (by simpa using hi) (by simpa using hj)
      omega
    cases o with
    | none => simpa using ih
    | some c =>
      simp only [List.filterMap_cons, id, List.nodup_cons]
      refine ⟨fun hm => ?_, ih⟩
      obtain ⟨x, hx, he⟩ := List.mem_filterMap.1 hm
      simp only [id] at he
      subst he
      obtain ⟨j, hj⟩ := List.getElem?_of_mem hx
      have := h 0 (j + 1) c (by simp) (by simpa using hj)
      omega

theorem mapM_all {α β : Type} {f : α → Option β} : ∀ {L : List α}, (∀ (i : Nat) (x : α), L[i]? = some x → ∃ y, f x = some y) → ∃ l, L.mapM f = some l ∧ l.length = L.length ∧ ∀ (i : Nat) (y : β), l[i]? = some y → ∃ x, L[i]? = some x ∧ f x = some y
  | [], _ => ⟨[], rfl, rfl, fun i y hy => by simp at hy⟩
  | a :: L, h => by
    obtain ⟨y, hy⟩ := h 0 a rfl
    obtain ⟨l, h1, h2, h3⟩ := mapM_all (f := f) (L := L) fun i x hx => h (i + 1) x (by simpa using hx)
    refine ⟨y :: l, by simp [List.mapM_cons, hy, h1], by simp [h2], fun i z hz => ?_⟩
    cases i with
    | zero => simp only [List.getElem?_cons_zero, Option.some.injEq] at hz; subst hz; exact ⟨a, rfl, hy⟩
    | succ i => simpa using h3 i z (by simpa using hz)

theorem apart_ok {h : AH} {esz bL m : Nat} {cap : Cap} {ro : Bool} {L : List AV} (hL : h.get bL = some (.cells L ro)) (hlm : L.length = m) (hm : m ≤ 1000000) (own : Nat → Nat)
    (hrow : ∀ (i : Nat) (x : AV), L[i]? = some x → ∃ ob, apartRow esz h x = some ob ∧ ∀ b, ob = some b → own b = i ∧ b ≠ bL) : ∃ h1, apartOrc esz [.slice (some (bL, 0)) m cap] h = some (.bool true, h1) := by
  obtain ⟨obs, h1, h2, h3⟩ := mapM_all (f := apartRow esz h) (L := L) fun i x hx => by
    obtain ⟨ob, h1, _⟩ := hrow i x hx
    exact ⟨ob, h1⟩
  have hat : ∀ i b, obs[i]? = some (some b) → own b = i ∧ b ≠ bL := fun i b hb => by
    obtain ⟨x, g1, g2⟩ := h3 i _ hb
    obtain ⟨ob, g3, g4⟩ := hrow i x g1
    rw [g2] at g3; cases g3
    exact g4 b rfl
  have hnd : (bL :: obs.filterMap id).Nodup := by
    rw [List.nodup_cons]
    refine ⟨fun hmem => ?_, nodup_of fun i j b hi hj => by rw [← (hat i b hi).1, (hat j b hj).1]⟩
    obtain ⟨x, hx, he⟩ := List.mem_filterMap.1 hmem
    simp only [id] at he
    subst he
    obtain ⟨j, hj⟩ := List.getElem?_of_mem hx
    exact (hat j bL hj).2 rfl
  refine ⟨Hp.sets ((bL :: obs.filterMap id).map fun b => (b, Blk.dead)) h, ?_⟩
  unfold apartOrc
  simp only [hL, h1]
  rw [if_pos ⟨hlm, hm⟩, if_pos hnd]

theorem Fresh.apart {N : Nat} {h : AH} {v : AV} {xs : List Int} (hf : Fresh N h v xs) : ∃ ob, apartRow 1 h v = some ob ∧ ∀ b, ob = some b → N ≤ b ∧ b < h.n := by
  rcases hf with ⟨rfl, rfl⟩ | ⟨hne, b, h1, h2, rfl, h4⟩
  · exact ⟨none, rfl, fun b hb => by cases hb⟩
  · refine ⟨some b, ?_, fun b' hb => by cases hb; exact ⟨h1, h2⟩⟩
    unfold apartRow
    simp only [h4]
    rw [if_pos ⟨trivial, by rw [ints_length, Nat.mul_one]⟩]
theorem Fresh.keep {N : Nat} {h h' : AH} {v : AV} {xs : List Int} (hf : Fresh N h v xs) (hn : h.n ≤ h'.n) (hg : ∀ b, N ≤ b → b < h.n → h'.get b = h.get b) : Fresh N h' v xs := by
  rcases hf with h1 | ⟨h1, b, h2, h3, h4, h5⟩
  · exact .inl h1
  · exact .inr ⟨h1, b, h2, Nat.lt_of_lt_of_le h3 hn, h4, by rw [hg b h2 h3, h5]⟩
/-- The row's block, wherever it lies. -/
theorem Fresh.ends {N : Nat} {h : AH} {v : AV} {xs : List Int} (hf : Fresh N h v xs) {h' : AH} (hn : h.n ≤ h'.n) (hg : ∀ b, N ≤ b → b < h.n → h'.get b = h.get b) : ∃ ob, apartRow 1 h' v = some ob ∧ ∀ b, ob = some b → N ≤ b ∧ b < h.n := by
  rcases hf with ⟨rfl, rfl⟩ | ⟨hne, b, h1, h2, rfl, h4⟩
  · exact ⟨none, rfl, fun b hb => by cases hb⟩
  · refine ⟨some b, ?_, fun b' hb => by cases hb; exact ⟨h1, h2⟩⟩
    unfold apartRow
    simp only [hg b h1 h2, h4]
    rw [if_pos ⟨trivial, by rw [ints_length, Nat.mul_one]⟩]
theorem full_apart {h : AH} {b N : Nat} {cs : List AV} (hb : h.get b = some (.cells cs false)) (hc : cs.length = N) (hN : N ≤ 1152921504606846976) : apartRow 1 h (.slice (some (b, 0)) N (.exact N)) = some (some b) := by
  unfold apartRow
  simp only [hb]
  rw [if_pos ⟨Nat.le_refl _, by omega, hN⟩]

set_option maxRecDepth 100000 in
set_option maxHeartbeats 16000000 in
theorem shuffles_spec (ho : ∀ f, f ∈ [3, 13, 14, 15, 16, 17, 18, 19, 20, 49, 64] → orc f = none) (hA : orc 21 = some (apartOrc 1)) {h : AH} {v : AV} {xs : List Int} (hr : IntRow h v xs) (hl : (xs.length + 2) * 8 ≤ 140737488355328) (s : Int) :
    ∃ h1, acall orc T 3 [v, .int .u64 s] h = some (.bool true, h1) := by
  suffices hs : ∃ v1 h', acall orc T 3 [v, .int .u64 s] h = some (v1, h') ∧ v1 = .bool true by
    obtain ⟨v1, h', h1, rfl⟩ := hs
    exact ⟨h', h1⟩
  refine acall_facts (R := fun v1 _ => v1 = .bool true) (ho 3 (by simp)) tbl3 ?_
  simp only [settle_fst]
  have hlen := hr.len
  have c0 := next_spec (orc := orc) (ho 13 (by simp)) s
  have c1 := refnext_spec (orc := orc) (ho 14 (by simp)) s
  dsimp only [List.length, List.replicate, List.append, List.cons_append, List.nil_append, Nat.reduceAdd, Nat.reduceSub]
  repeat' first | (simp only [op_lenS, lenSV_str, op_lenV, lenV_slice, op_toInt, toIntV_int, op_iaddrS, RetK_inv, RetK_inv_exit, RetK_inv_ret, Nat.add_assoc, Nat.reduceEqDiff, Nat.reduceBEq, Nat.reduceBNe, Nat.le_min, Nat.le_add_right, Nat.min_self, Int.reduceBEq, Int.reduceBNe, Int.reduceLT, Int.reduceLE, Int.reduceEq, beq_self_eq_true, bne_self_eq_false, Bool.not_true, Bool.not_false, decide_true, decide_false, decide_eq_true_eq, Bool.and_eq_true, List.mapM_cons, List.mapM_nil, Option.bind_eq_bind, Option.pure_def, aeqK_agg, aeqK_scal, leavesK_nil, leavesK_cons, leafK_i, leafK_b, leafK_s, DrawK_nil, DrawK_cons, DrawK_guard, DResK_some, DGuardK_tt, DGuardK_ff, DGuardK_tf, DGuardK_ft, DGuardK_u, kept_load, Kept, KeptOne, closeOp, CO.quiet, CO.reads, CodeK_seq, CodeK_region, CodeK_skip, CodeK_ret, CodeK_exit, CodeK_cond, CodeK_block, CondK_true, CondK_false, RunK_cons, RunK_nil, RunK_guard, GuardK_tt, GuardK_ff, GuardK_tf, GuardK_ft, GuardK_u, ResK_some, RetK_nil, RetK_seq, RetK_seq_exit, RetK_seq_ret, RetK_block, RetK_block_ret, RetK_block_exit, RetK_block_exit_ne, op_mv, op_un, op_bin, op_load, loadV_ptr, op_faddr, faddrV_ptr, op_pick, pickV_true, pickV_false, pickV_bool, pickV_same, op_box, boxV_agg, op_call, op_build, op_ext, op_alloc, op_store, storeV_ptr, List.all_cons, List.all_nil, AV.one, AV.cells, Bool.and_self, Bool.and_true, Bool.true_and, put, CA.ev, List.set_cons_zero, List.set_cons_succ, List.getD_cons_zero, List.getD_cons_succ, abin, aint, aun, isShift, Option.map_some, Option.bind_some, List.map_cons, List.map_nil, Hp.n_withLow, Hp.n_push, Hp.n_set, Hp.low_withLow, Hp.low_push, Hp.low_set, Hp.get_push, Hp.get_set, Hp.get_withLow, readVar, readCell, readCells, writeCells, cut, fillA, Bool.false_eq_true, if_false, if_true, reduceIte, List.getElem?_cons_zero, List.getElem?_cons_succ, Nat.zero_add, Nat.add_zero, Nat.reduceAdd, Nat.reduceSub, Nat.reduceLT, Nat.reduceLeDiff, Nat.reduceEqDiff, List.length_cons, List.length_nil, List.take_succ_cons, List.take_zero, List.drop_zero, List.drop_succ_cons, List.cons_append, List.nil_append, List.append_nil, DoneK, resAll, resOne, AV.under, AV.unders, and_true, true_and, and_self, or_true, true_or, cond_true, cond_false, Nat.le_refl, Nat.add_eq_left, Nat.left_eq_add, Nat.add_right_cancel_iff, Nat.add_left_cancel_iff, c0, c1, *]) | (refine GuardK_split (fun hb => ?_) (fun hb => ?_)) | (refine CondK_split (fun hb => ?_) (fun hb => ?_)) | (refine CodeK_regionD _ ?_) | (refine DGuardK_split (fun hb => ?_) (fun hb => ?_))
  refine ResK_ex (lent_spec (ho 15 (by simp)) (hr.ext (Ext.low h h.n)) hl) fun v1 H1 hL => ?_
  obtain ⟨b0, n0, n1, rfl, g0, x1⟩ := hL
  simp only [Hp.n_withLow] at n0
  have rfull : IntRow H1 (.slice (some (b0, 0)) (xs.length + 2) (.exact (xs.length + 2))) (xs ++ [-77, -77]) :=
    ⟨some (b0, 0), .exact (xs.length + 2), by simp, .inl ⟨_, rfl, by simp⟩, .inr ⟨b0, 0, _, false, rfl, n1, g0, cut_iff.2 ⟨by rw [ints_length]; omega, by rw [List.drop_zero, ← ints_length, List.take_length]⟩⟩⟩
  obtain ⟨vt, s1, rt⟩ := slc_hi rfull (k := xs.length) (by simp)
  rw [List.take_left] at rt
  have hsz : xs.length * 8 ≤ 140737488355328 := by omega
  repeat' first | (simp only [op_lenS, lenSV_str, op_lenV, lenV_slice, op_toInt, toIntV_int, op_iaddrS, RetK_inv, RetK_inv_exit, RetK_inv_ret, Nat.add_assoc, Nat.reduceEqDiff, Nat.reduceBEq, Nat.reduceBNe, Nat.le_min, Nat.le_add_right, Nat.min_self, Int.reduceBEq, Int.reduceBNe, Int.reduceLT, Int.reduceLE, Int.reduceEq, beq_self_eq_true, bne_self_eq_false, Bool.not_true, Bool.not_false, decide_true, decide_false, decide_eq_true_eq, Bool.and_eq_true, List.mapM_cons, List.mapM_nil, Option.bind_eq_bind, Option.pure_def, aeqK_agg, aeqK_scal, leavesK_nil, leavesK_cons, leafK_i, leafK_b, leafK_s, DrawK_nil, DrawK_cons, DrawK_guard, DResK_some, DGuardK_tt, DGuardK_ff, DGuardK_tf, DGuardK_ft, DGuardK_u, kept_load, Kept, KeptOne, closeOp, CO.quiet, CO.reads, CodeK_seq, CodeK_region, CodeK_skip, CodeK_ret, CodeK_exit, CodeK_cond, CodeK_block, CondK_true, CondK_false, RunK_cons, RunK_nil, RunK_guard, GuardK_tt, GuardK_ff, GuardK_tf, GuardK_ft, GuardK_u, ResK_some, RetK_nil, RetK_seq, RetK_seq_exit, RetK_seq_ret, RetK_block, RetK_block_ret, RetK_block_exit, RetK_block_exit_ne, op_mv, op_un, op_bin, op_load, loadV_ptr, op_faddr, faddrV_ptr, op_pick, pickV_true, pickV_false, pickV_bool, pickV_same, op_box, boxV_agg, op_call, op_build, op_ext, op_alloc, op_store, storeV_ptr, List.all_cons, List.all_nil, AV.one, AV.cells, Bool.and_self, Bool.and_true, Bool.true_and, put, CA.ev, List.set_cons_zero, List.set_cons_succ, List.getD_cons_zero, List.getD_cons_succ, abin, aint, aun, isShift, Option.map_some, Option.bind_some, List.map_cons, List.map_nil, Hp.n_withLow, Hp.n_push, Hp.n_set, Hp.low_withLow, Hp.low_push, Hp.low_set, Hp.get_push, Hp.get_set, Hp.get_withLow, readVar, readCell, readCells, writeCells, cut, fillA, Bool.false_eq_true, if_false, if_true, reduceIte, List.getElem?_cons_zero, List.getElem?_cons_succ, Nat.zero_add, Nat.add_zero, Nat.reduceAdd, Nat.reduceSub, Nat.reduceLT, Nat.reduceLeDiff, Nat.reduceEqDiff, List.length_cons, List.length_nil, List.take_succ_cons, List.take_zero, List.drop_zero, List.drop_succ_cons, List.cons_append, List.nil_append, List.append_nil, DoneK, resAll, resOne, AV.under, AV.unders, and_true, true_and, and_self, or_true, true_or, cond_true, cond_false, Nat.le_refl, Nat.add_eq_left, Nat.left_eq_add, Nat.add_right_cancel_iff, Nat.add_left_cancel_iff, hlen, op_slcV, s1, *]) | (refine GuardK_split (fun hb => ?_) (fun hb => ?_)) | (refine CondK_split (fun hb => ?_) (fun hb => ?_)) | (refine CodeK_regionD _ ?_) | (refine DGuardK_split (fun hb => ?_) (fun hb => ?_))
  refine ResK_ex (shuffle_spec (ho 16 (by simp)) (ho 13 (by simp)) rt hsz s) fun v2 H2 hL => ?_
  obtain ⟨va, rfl, fa, x2⟩ := hL
  obtain ⟨aA, cA, rfl, _⟩ := id fa.row
  repeat' first | (simp only [op_lenS, lenSV_str, op_lenV, lenV_slice, op_toInt, toIntV_int, op_iaddrS, RetK_inv, RetK_inv_exit, RetK_inv_ret, Nat.add_assoc, Nat.reduceEqDiff, Nat.reduceBEq, Nat.reduceBNe, Nat.le_min, Nat.le_add_right, Nat.min_self, Int.reduceBEq, Int.reduceBNe, Int.reduceLT, Int.reduceLE, Int.reduceEq, beq_self_eq_true, bne_self_eq_false, Bool.not_true, Bool.not_false, decide_true, decide_false, decide_eq_true_eq, Bool.and_eq_true, List.mapM_cons, List.mapM_nil, Option.bind_eq_bind, Option.pure_def, aeqK_agg, aeqK_scal, leavesK_nil, leavesK_cons, leafK_i, leafK_b, leafK_s, DrawK_nil, DrawK_cons, DrawK_guard, DResK_some, DGuardK_tt, DGuardK_ff, DGuardK_tf, DGuardK_ft, DGuardK_u, kept_load, Kept, KeptOne, closeOp, CO.quiet, CO.reads, CodeK_seq, CodeK_region, CodeK_skip, CodeK_ret, CodeK_exit, CodeK_cond, CodeK_block, CondK_true, CondK_false, RunK_cons, RunK_nil, RunK_guard, GuardK_tt, GuardK_ff, GuardK_tf, GuardK_ft, GuardK_u, ResK_some, RetK_nil, RetK_seq, RetK_seq_exit, RetK_seq_ret, RetK_block, RetK_block_ret, RetK_block_exit, RetK_block_exit_ne, op_mv, op_un, op_bin, op_load, loadV_ptr, op_faddr, faddrV_ptr, op_pick, pickV_true, pickV_false, pickV_bool, pickV_same, op_box, boxV_agg, op_call, op_build, op_ext, op_alloc, op_store, storeV_ptr, List.all_cons, List.all_nil, AV.one, AV.cells, Bool.and_self, Bool.and_true, Bool.true_and, put, CA.ev, List.set_cons_zero, List.set_cons_succ, List.getD_cons_zero, List.getD_cons_succ, abin, aint, aun, isShift, Option.map_some, Option.bind_some, List.map_cons, List.map_nil, Hp.n_withLow, Hp.n_push, Hp.n_set, Hp.low_withLow, Hp.low_push, Hp.low_set, Hp.get_push, Hp.get_set, Hp.get_withLow, readVar, readCell, readCells, writeCells, cut, fillA, Bool.false_eq_true, if_false, if_true, reduceIte, List.getElem?_cons_zero, List.getElem?_cons_succ, Nat.zero_add, Nat.add_zero, Nat.reduceAdd, Nat.reduceSub, Nat.reduceLT, Nat.reduceLeDiff, Nat.reduceEqDiff, List.length_cons, List.length_nil, List.take_succ_cons, List.take_zero, List.drop_zero, List.drop_succ_cons, List.cons_append, List.nil_append, List.append_nil, DoneK, resAll, resOne, AV.under, AV.unders, and_true, true_and, and_self, or_true, true_or, cond_true, cond_false, Nat.le_refl, Nat.add_eq_left, Nat.left_eq_add, Nat.add_right_cancel_iff, Nat.add_left_cancel_iff, hlen, op_slcV, s1, *]) | (refine GuardK_split (fun hb => ?_) (fun hb => ?_)) | (refine CondK_split (fun hb => ?_) (fun hb => ?_)) | (refine CodeK_regionD _ ?_) | (refine DGuardK_split (fun hb => ?_) (fun hb => ?_))
  refine ResK_ex (shuffle_spec (ho 16 (by simp)) (ho 13 (by simp)) (rt.ext x2) hsz s) fun v3 H3 hL => ?_
  obtain ⟨vb, rfl, fb, x3⟩ := hL
  obtain ⟨aB, cB, rfl, _⟩ := id fb.row
  have hr3 := ((hr.ext ((Ext.low h h.n).trans x1)).ext x2).ext x3
  repeat' first | (simp only [op_lenS, lenSV_str, op_lenV, lenV_slice, op_toInt, toIntV_int, op_iaddrS, RetK_inv, RetK_inv_exit, RetK_inv_ret, Nat.add_assoc, Nat.reduceEqDiff, Nat.reduceBEq, Nat.reduceBNe, Nat.le_min, Nat.le_add_right, Nat.min_self, Int.reduceBEq, Int.reduceBNe, Int.reduceLT, Int.reduceLE, Int.reduceEq, beq_self_eq_true, bne_self_eq_false, Bool.not_true, Bool.not_false, decide_true, decide_false, decide_eq_true_eq, Bool.and_eq_true, List.mapM_cons, List.mapM_nil, Option.bind_eq_bind, Option.pure_def, aeqK_agg, aeqK_scal, leavesK_nil, leavesK_cons, leafK_i, leafK_b, leafK_s, DrawK_nil, DrawK_cons, DrawK_guard, DResK_some, DGuardK_tt, DGuardK_ff, DGuardK_tf, DGuardK_ft, DGuardK_u, kept_load, Kept, KeptOne, closeOp, CO.quiet, CO.reads, CodeK_seq, CodeK_region, CodeK_skip, CodeK_ret, CodeK_exit, CodeK_cond, CodeK_block, CondK_true, CondK_false, RunK_cons, RunK_nil, RunK_guard, GuardK_tt, GuardK_ff, GuardK_tf, GuardK_ft, GuardK_u, ResK_some, RetK_nil, RetK_seq, RetK_seq_exit, RetK_seq_ret, RetK_block, RetK_block_ret, RetK_block_exit, RetK_block_exit_ne, op_mv, op_un, op_bin, op_load, loadV_ptr, op_faddr, faddrV_ptr, op_pick, pickV_true, pickV_false, pickV_bool, pickV_same, op_box, boxV_agg, op_call, op_build, op_ext, op_alloc, op_store, storeV_ptr, List.all_cons, List.all_nil, AV.one, AV.cells, Bool.and_self, Bool.and_true, Bool.true_and, put, CA.ev, List.set_cons_zero, List.set_cons_succ, List.getD_cons_zero, List.getD_cons_succ, abin, aint, aun, isShift, Option.map_some, Option.bind_some, List.map_cons, List.map_nil, Hp.n_withLow, Hp.n_push, Hp.n_set, Hp.low_withLow, Hp.low_push, Hp.low_set, Hp.get_push, Hp.get_set, Hp.get_withLow, readVar, readCell, readCells, writeCells, cut, fillA, Bool.false_eq_true, if_false, if_true, reduceIte, List.getElem?_cons_zero, List.getElem?_cons_succ, Nat.zero_add, Nat.add_zero, Nat.reduceAdd, Nat.reduceSub, Nat.reduceLT, Nat.reduceLeDiff, Nat.reduceEqDiff, List.length_cons, List.length_nil, List.take_succ_cons, List.take_zero, List.drop_zero, List.drop_succ_cons, List.cons_append, List.nil_append, List.append_nil, DoneK, resAll, resOne, AV.under, AV.unders, and_true, true_and, and_self, or_true, true_or, cond_true, cond_false, Nat.le_refl, Nat.add_eq_left, Nat.left_eq_add, Nat.add_right_cancel_iff, Nat.add_left_cancel_iff, hlen, *]) | (refine GuardK_split (fun hb => ?_) (fun hb => ?_)) | (refine CondK_split (fun hb => ?_) (fun hb => ?_)) | (refine CodeK_regionD _ ?_) | (refine DGuardK_split (fun hb => ?_) (fun hb => ?_))
  refine ResK_ex (refshuffle_spec (ho 17 (by simp)) (ho 14 (by simp)) (ho 64 (by simp)) hr3 hsz s) fun v4 H4 hL => ?_
  obtain ⟨vw, rfl, fw, x4⟩ := hL
  have x14 := (x2.trans x3).trans x4
  repeat' first | (simp only [op_lenS, lenSV_str, op_lenV, lenV_slice, op_toInt, toIntV_int, op_iaddrS, RetK_inv, RetK_inv_exit, RetK_inv_ret, Nat.add_assoc, Nat.reduceEqDiff, Nat.reduceBEq, Nat.reduceBNe, Nat.le_min, Nat.le_add_right, Nat.min_self, Int.reduceBEq, Int.reduceBNe, Int.reduceLT, Int.reduceLE, Int.reduceEq, beq_self_eq_true, bne_self_eq_false, Bool.not_true, Bool.not_false, decide_true, decide_false, decide_eq_true_eq, Bool.and_eq_true, List.mapM_cons, List.mapM_nil, Option.bind_eq_bind, Option.pure_def, aeqK_agg, aeqK_scal, leavesK_nil, leavesK_cons, leafK_i, leafK_b, leafK_s, DrawK_nil, DrawK_cons, DrawK_guard, DResK_some, DGuardK_tt, DGuardK_ff, DGuardK_tf, DGuardK_ft, DGuardK_u, kept_load, Kept, KeptOne, closeOp, CO.quiet, CO.reads, CodeK_seq, CodeK_region, CodeK_skip, CodeK_ret, CodeK_exit, CodeK_cond, CodeK_block, CondK_true, CondK_false, RunK_cons, RunK_nil, RunK_guard, GuardK_tt, GuardK_ff, GuardK_tf, GuardK_ft, GuardK_u, ResK_some, RetK_nil, RetK_seq, RetK_seq_exit, RetK_seq_ret, RetK_block, RetK_block_ret, RetK_block_exit, RetK_block_exit_ne, op_mv, op_un, op_bin, op_load, loadV_ptr, op_faddr, faddrV_ptr, op_pick, pickV_true, pickV_false, pickV_bool, pickV_same, op_box, boxV_agg, op_call, op_build, op_ext, op_alloc, op_store, storeV_ptr, List.all_cons, List.all_nil, AV.one, AV.cells, Bool.and_self, Bool.and_true, Bool.true_and, put, CA.ev, List.set_cons_zero, List.set_cons_succ, List.getD_cons_zero, List.getD_cons_succ, abin, aint, aun, isShift, Option.map_some, Option.bind_some, List.map_cons, List.map_nil, Hp.n_withLow, Hp.n_push, Hp.n_set, Hp.low_withLow, Hp.low_push, Hp.low_set, Hp.get_push, Hp.get_set, Hp.get_withLow, readVar, readCell, readCells, writeCells, cut, fillA, Bool.false_eq_true, if_false, if_true, reduceIte, List.getElem?_cons_zero, List.getElem?_cons_succ, Nat.zero_add, Nat.add_zero, Nat.reduceAdd, Nat.reduceSub, Nat.reduceLT, Nat.reduceLeDiff, Nat.reduceEqDiff, List.length_cons, List.length_nil, List.take_succ_cons, List.take_zero, List.drop_zero, List.drop_succ_cons, List.cons_append, List.nil_append, List.append_nil, DoneK, resAll, resOne, AV.under, AV.unders, and_true, true_and, and_self, or_true, true_or, cond_true, cond_false, Nat.le_refl, Nat.add_eq_left, Nat.left_eq_add, Nat.add_right_cancel_iff, Nat.add_left_cancel_iff, hlen, bne_self_eq_false, *]) | (refine GuardK_split (fun hb => ?_) (fun hb => ?_)) | (refine CondK_split (fun hb => ?_) (fun hb => ?_)) | (refine CodeK_regionD _ ?_) | (refine DGuardK_split (fun hb => ?_) (fun hb => ?_))
  refine ResK_ex (kept_spec (ho 18 (by simp)) (ho 49 (by simp)) (ho 20 (by simp)) (rfull.ext x14) (hr3.ext x4) hl) fun v5 H5 hL => ?_
  obtain ⟨rfl, x5⟩ := hL
  have x15 := x14.trans x5
  repeat' first | (simp only [op_lenS, lenSV_str, op_lenV, lenV_slice, op_toInt, toIntV_int, op_iaddrS, RetK_inv, RetK_inv_exit, RetK_inv_ret, Nat.add_assoc, Nat.reduceEqDiff, Nat.reduceBEq, Nat.reduceBNe, Nat.le_min, Nat.le_add_right, Nat.min_self, Int.reduceBEq, Int.reduceBNe, Int.reduceLT, Int.reduceLE, Int.reduceEq, beq_self_eq_true, bne_self_eq_false, Bool.not_true, Bool.not_false, decide_true, decide_false, decide_eq_true_eq, Bool.and_eq_true, List.mapM_cons, List.mapM_nil, Option.bind_eq_bind, Option.pure_def, aeqK_agg, aeqK_scal, leavesK_nil, leavesK_cons, leafK_i, leafK_b, leafK_s, DrawK_nil, DrawK_cons, DrawK_guard, DResK_some, DGuardK_tt, DGuardK_ff, DGuardK_tf, DGuardK_ft, DGuardK_u, kept_load, Kept, KeptOne, closeOp, CO.quiet, CO.reads, CodeK_seq, CodeK_region, CodeK_skip, CodeK_ret, CodeK_exit, CodeK_cond, CodeK_block, CondK_true, CondK_false, RunK_cons, RunK_nil, RunK_guard, GuardK_tt, GuardK_ff, GuardK_tf, GuardK_ft, GuardK_u, ResK_some, RetK_nil, RetK_seq, RetK_seq_exit, RetK_seq_ret, RetK_block, RetK_block_ret, RetK_block_exit, RetK_block_exit_ne, op_mv, op_un, op_bin, op_load, loadV_ptr, op_faddr, faddrV_ptr, op_pick, pickV_true, pickV_false, pickV_bool, pickV_same, op_box, boxV_agg, op_call, op_build, op_ext, op_alloc, op_store, storeV_ptr, List.all_cons, List.all_nil, AV.one, AV.cells, Bool.and_self, Bool.and_true, Bool.true_and, put, CA.ev, List.set_cons_zero, List.set_cons_succ, List.getD_cons_zero, List.getD_cons_succ, abin, aint, aun, isShift, Option.map_some, Option.bind_some, List.map_cons, List.map_nil, Hp.n_withLow, Hp.n_push, Hp.n_set, Hp.low_withLow, Hp.low_push, Hp.low_set, Hp.get_push, Hp.get_set, Hp.get_withLow, readVar, readCell, readCells, writeCells, cut, fillA, Bool.false_eq_true, if_false, if_true, reduceIte, List.getElem?_cons_zero, List.getElem?_cons_succ, Nat.zero_add, Nat.add_zero, Nat.reduceAdd, Nat.reduceSub, Nat.reduceLT, Nat.reduceLeDiff, Nat.reduceEqDiff, List.length_cons, List.length_nil, List.take_succ_cons, List.take_zero, List.drop_zero, List.drop_succ_cons, List.cons_append, List.nil_append, List.append_nil, DoneK, resAll, resOne, AV.under, AV.unders, and_true, true_and, and_self, or_true, true_or, cond_true, cond_false, Nat.le_refl, Nat.add_eq_left, Nat.left_eq_add, Nat.add_right_cancel_iff, Nat.add_left_cancel_iff, hlen, *]) | (refine GuardK_split (fun hb => ?_) (fun hb => ?_)) | (refine CondK_split (fun hb => ?_) (fun hb => ?_)) | (refine CodeK_regionD _ ?_) | (refine DGuardK_split (fun hb => ?_) (fun hb => ?_))
  refine ResK_ex (over_spec (ho 19 (by simp)) (b := b0) (N := xs.length + 2) (cs := ints (xs ++ [-77, -77])) (by rw [x15.2 b0 n1, g0]) (by rw [ints_length]; simp) (by omega)) fun v6 H6 hL => ?_
  obtain ⟨k1, ⟨cs', k2, k3⟩, k4⟩ := hL
  have m2 := x2.1
  have m3 := x3.1
  have m4 := x4.1
  have m5 := x5.1
  have ka : ∀ b, H1.n ≤ b → b < H2.n → H6.get b = H2.get b := fun b q1 q2 => by rw [k4 b (by omega), x5.2 b (by omega), x4.2 b (by omega), x3.2 b (by omega)]
  have kb : ∀ b, H2.n ≤ b → b < H3.n → H6.get b = H3.get b := fun b q1 q2 => by rw [k4 b (by omega), x5.2 b (by omega), x4.2 b (by omega)]
  have kw : ∀ b, H3.n ≤ b → b < H4.n → H6.get b = H4.get b := fun b q1 q2 => by rw [k4 b (by omega), x5.2 b (by omega)]
  have ra := (fa.keep (h' := H6) (by omega) ka).row
  have rb := (fb.keep (h' := H6) (by omega) kb).row
  have rw' := (fw.keep (h' := H6) (by omega) kw).row
  have hsl : (shuffled s xs).length ≤ 1152921504606846976 := by rw [shuffled_length]; omega
  have c2 := same_spec (orc := orc) (ho 20 (by simp)) ra rw' hsl
  have c3 := same_spec (orc := orc) (ho 20 (by simp)) rb rw' hsl
  have o1 : ∀ a b c y : AV, Fs.over [a, b, c] 0 [y] = [y, b, c] := fun _ _ _ _ => rfl
  have o2 : ∀ a b c y : AV, Fs.over [a, b, c] 1 [y] = [a, y, c] := fun _ _ _ _ => rfl
  have o3 : ∀ a b c y : AV, Fs.over [a, b, c] 2 [y] = [a, b, y] := fun _ _ _ _ => rfl
  have r3 : ∀ a : AV, Fs.reps [a] 3 = [a, a, a] := fun _ => rfl
  obtain ⟨h7, e7⟩ := apart_ok (h := H6.push (.cells [.slice (some (b0, 0)) (xs.length + 2) (.exact (xs.length + 2)), .slice aA (shuffled s xs).length cA, .slice aB (shuffled s xs).length cB] false)) (esz := 1) (bL := H6.n) (m := 3) (cap := .exact 3) (Hp.get_push_self _ _) rfl (by omega)
    (fun b => if b < H1.n then 0 else if b < H2.n then 1 else 2) (fun i x hx => by
      match i with
      | 0 =>
        cases hx
        refine ⟨some b0, full_apart (cs := cs') (by rw [Hp.get_push_ne _ _ _ (by omega), k2]) k3 (by omega), fun b hb => ?_⟩
        cases hb
        exact ⟨if_pos n1, by omega⟩
      | 1 =>
        cases hx
        obtain ⟨ob, q1, q2⟩ := fa.ends (h' := H6.push (.cells [.slice (some (b0, 0)) (xs.length + 2) (.exact (xs.length + 2)), .slice aA (shuffled s xs).length cA, .slice aB (shuffled s xs).length cB] false)) (by simp; omega) fun b q1 q2 => by rw [Hp.get_push_ne _ _ _ (by omega), ka b q1 q2]
        refine ⟨ob, q1, fun b hb => ?_⟩
        have := q2 b hb
        exact ⟨by rw [if_neg (by omega), if_pos (by omega)], by omega⟩
      | 2 =>
        cases hx
        obtain ⟨ob, q1, q2⟩ := fb.ends (h' := H6.push (.cells [.slice (some (b0, 0)) (xs.length + 2) (.exact (xs.length + 2)), .slice aA (shuffled s xs).length cA, .slice aB (shuffled s xs).length cB] false)) (by simp; omega) fun b q1 q2 => by rw [Hp.get_push_ne _ _ _ (by omega), kb b q1 q2]
        refine ⟨ob, q1, fun b hb => ?_⟩
        have := q2 b hb
        exact ⟨by rw [if_neg (by omega), if_neg (by omega)], by omega⟩
      | i + 3 => simp at hx)
  have c4 := acall_orc (tbl := T) hA e7
  rw [k1] at c4
  repeat' first | (simp only [op_lenS, lenSV_str, op_lenV, lenV_slice, op_toInt, toIntV_int, op_iaddrS, RetK_inv, RetK_inv_exit, RetK_inv_ret, Nat.add_assoc, Nat.reduceEqDiff, Nat.reduceBEq, Nat.reduceBNe, Nat.le_min, Nat.le_add_right, Nat.min_self, Int.reduceBEq, Int.reduceBNe, Int.reduceLT, Int.reduceLE, Int.reduceEq, beq_self_eq_true, bne_self_eq_false, Bool.not_true, Bool.not_false, decide_true, decide_false, decide_eq_true_eq, Bool.and_eq_true, List.mapM_cons, List.mapM_nil, Option.bind_eq_bind, Option.pure_def, aeqK_agg, aeqK_scal, leavesK_nil, leavesK_cons, leafK_i, leafK_b, leafK_s, DrawK_nil, DrawK_cons, DrawK_guard, DResK_some, DGuardK_tt, DGuardK_ff, DGuardK_tf, DGuardK_ft, DGuardK_u, kept_load, Kept, KeptOne, closeOp, CO.quiet, CO.reads, CodeK_seq, CodeK_region, CodeK_skip, CodeK_ret, CodeK_exit, CodeK_cond, CodeK_block, CondK_true, CondK_false, RunK_cons, RunK_nil, RunK_guard, GuardK_tt, GuardK_ff, GuardK_tf, GuardK_ft, GuardK_u, ResK_some, RetK_nil, RetK_seq, RetK_seq_exit, RetK_seq_ret, RetK_block, RetK_block_ret, RetK_block_exit, RetK_block_exit_ne, op_mv, op_un, op_bin, op_load, loadV_ptr, op_faddr, faddrV_ptr, op_pick, pickV_true, pickV_false, pickV_bool, pickV_same, op_box, boxV_agg, op_call, op_build, op_ext, op_alloc, op_store, storeV_ptr, List.all_cons, List.all_nil, AV.one, AV.cells, Bool.and_self, Bool.and_true, Bool.true_and, put, CA.ev, List.set_cons_zero, List.set_cons_succ, List.getD_cons_zero, List.getD_cons_succ, abin, aint, aun, isShift, Option.map_some, Option.bind_some, List.map_cons, List.map_nil, Hp.n_withLow, Hp.n_push, Hp.n_set, Hp.low_withLow, Hp.low_push, Hp.low_set, Hp.get_push, Hp.get_set, Hp.get_withLow, readVar, readCell, readCells, writeCells, cut, fillA, Bool.false_eq_true, if_false, if_true, reduceIte, List.getElem?_cons_zero, List.getElem?_cons_succ, Nat.zero_add, Nat.add_zero, Nat.reduceAdd, Nat.reduceSub, Nat.reduceLT, Nat.reduceLeDiff, Nat.reduceEqDiff, List.length_cons, List.length_nil, List.take_succ_cons, List.take_zero, List.drop_zero, List.drop_succ_cons, List.cons_append, List.nil_append, List.append_nil, DoneK, resAll, resOne, AV.under, AV.unders, and_true, true_and, and_self, or_true, true_or, cond_true, cond_false, Nat.le_refl, Nat.add_eq_left, Nat.left_eq_add, Nat.add_right_cancel_iff, Nat.add_left_cancel_iff, c2, c3, c4, op_litS, fillA, o1, o2, o3, r3, Option.some.injEq, *]) | (refine GuardK_split (fun hb => ?_) (fun hb => ?_)) | (refine CondK_split (fun hb => ?_) (fun hb => ?_)) | (refine CodeK_regionD _ ?_) | (refine DGuardK_split (fun hb => ?_) (fun hb => ?_))
  exact ⟨_, rfl, rfl⟩
end Go.Proofs.Po
