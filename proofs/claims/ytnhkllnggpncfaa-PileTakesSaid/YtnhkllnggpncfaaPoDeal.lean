/- Dealing: hands, round. -/
import Derived.Test.YtnhkllnggpncfaaPoCat
namespace Go.Proofs.Po
open Go Go.Fs
set_option linter.unusedSimpArgs false
set_option linter.unusedVariables false
variable {orc : Orc}

/-- A row of one's own, of an owner's. -/
def Fr (N : Nat) (h : AH) (own : Nat → Nat) (c : Nat) (v : AV) (xs : List Int) : Prop :=
  (xs = [] ∧ v = .slice none 0 (.exact 0)) ∨ (xs ≠ [] ∧ ∃ b, N ≤ b ∧ b < h.n ∧ own b = c ∧ v = .slice (some (b, 0)) xs.length (.opn 1) ∧ h.get b = some (.cells (ints xs) false))
theorem Fr.fresh {N : Nat} {h : AH} {own : Nat → Nat} {c : Nat} {v : AV} {xs : List Int} (hf : Fr N h own c v xs) : Fresh N h v xs := by
  rcases hf with h1 | ⟨h1, b, h2, h3, _, h4⟩
  · exact .inl h1
  · exact .inr ⟨h1, b, h2, h3, h4⟩
theorem Fr.mono {N : Nat} {h h' : AH} {own own' : Nat → Nat} {c : Nat} {v : AV} {xs : List Int} (hf : Fr N h own c v xs) (hn : h.n ≤ h'.n) (ho : ∀ b, b < h.n → own b = c → own' b = c) (hg : ∀ b, b < h.n → own b = c → h'.get b = h.get b) : Fr N h' own' c v xs := by
  rcases hf with h1 | ⟨h1, b, h2, h3, h4, h5, h6⟩
  · exact .inl h1
  · exact .inr ⟨h1, b, h2, Nat.lt_of_lt_of_le h3 hn, ho b h3 h4, h5, by rw [hg b h3 h4, h6]⟩
theorem Fr.one {N : Nat} {h : AH} {own : Nat → Nat} {c : Nat} {v : AV} {xs : List Int} (hf : Fr N h own c v xs) : ∃ a k, v = .slice a xs.length k := by
  rcases hf with ⟨rfl, rfl⟩ | ⟨_, b, _, _, _, rfl, _⟩
  · exact ⟨_, _, rfl⟩
  · exact ⟨_, _, rfl⟩
theorem app_fr {N : Nat} {h : AH} {own : Nat → Nat} {c : Nat} {v u : AV} {xs ys : List Int} (hf : Fr N h own c v xs) (hu : IntRow h u ys) (hy : ys ≠ []) (hl : (xs.length + ys.length) * 8 ≤ 140737488355328) :
    ∃ v' h', appendRun 1 8 v u h = some (v', h') ∧ (v' = .slice (some (h.n, 0)) (xs ++ ys).length (.opn 1) ∧ h'.n = h.n + 1 ∧ h'.get h.n = some (.cells (ints (xs ++ ys)) false) ∧ ∀ b, b < h.n → own b ≠ c → h'.get b = h.get b) := by
  rcases hf with ⟨rfl, rfl⟩ | ⟨hne, b, h2, h3, h4, rfl, h6⟩
  · obtain ⟨e1, e2⟩ := elems_row hu
    have hq : 0 < ys.length := List.length_pos_iff.2 hy
    refine ⟨_, h.push (.cells (ints ys) false), ?_, rfl, by simp, by simp, fun b hb _ => Hp.get_push_ne _ _ _ (by omega)⟩
    unfold appendRun
    simp only [e1, e2, Option.bind_some, appendCore, elems_nil, Nat.zero_add, List.nil_append]
    rw [if_neg (by omega), if_pos ⟨by simpa using hl, by simp at hl; omega⟩]
  · obtain ⟨v', h', e1, e2⟩ := app_own h6 hne hu hl
    rcases e2 with ⟨_, e3, _⟩ | ⟨rfl, _, rfl⟩
    · exact absurd e3 hy
    · refine ⟨_, _, e1, rfl, by simp, by simp only [Hp.get_push, Hp.n_set, if_true], fun b' hb' hc => ?_⟩
      have n1 : ¬ b' = h.n := by omega
      have n2 : ¬ b' = b := fun e => hc (by rw [e, h4])
      simp only [Hp.get_push, Hp.n_set, n1, if_false, Hp.get_set, n2]

/-- What hand j holds behind i numbers. -/
def dealt (H : Nat) (xs : List Int) : Nat → Nat → List Int
  | 0, _ => []
  | i + 1, j => if j = i % H then dealt H xs i j ++ [xs.getD i 0] else dealt H xs i j
theorem dealt_length (H : Nat) (xs : List Int) : ∀ i j, (dealt H xs i j).length ≤ i
  | 0, _ => Nat.le_refl _
  | i + 1, j => by
    have := dealt_length H xs i j
    simp only [dealt]
    split
    · simp; omega
    · omega
def sumTo (f : Nat → Nat) : Nat → Nat
  | 0 => 0
  | n + 1 => sumTo f n + f n
theorem sumTo_congr {f g : Nat → Nat} : ∀ {n : Nat}, (∀ j, j < n → f j = g j) → sumTo f n = sumTo g n
  | 0, _ => rfl
  | n + 1, h => by simp only [sumTo]; rw [sumTo_congr fun j hj => h j (by omega), h n (by omega)]
theorem sumTo_one {f : Nat → Nat} {k c : Nat} : ∀ {n : Nat}, sumTo (fun j => if j = k then f j + c else f j) n = sumTo f n + if k < n then c else 0
  | 0 => by simp [sumTo]
  | n + 1 => by
    simp only [sumTo]
    rw [sumTo_one (n := n)]
    by_cases h1 : n = k
    · subst h1
      simp; omega
    · rw [if_neg h1]
      by_cases h2 : k < n
      · rw [if_pos h2, if_pos (by omega)]; omega
      · rw [if_neg h2, if_neg (by omega)]; omega
theorem dealt_count (H : Nat) (hH : 0 < H) (xs : List Int) (x : Int) : ∀ i, i ≤ xs.length → sumTo (fun j => (dealt H xs i j).count x) H = (xs.take i).count x
  | 0, _ => by
    have : ∀ n, sumTo (fun j => (dealt H xs 0 j).count x) n = 0 := fun n => by induction n with
      | zero => rfl
      | succ n ih => simp only [sumTo, ih]; rfl
    rw [this]; rfl
  | i + 1, hi => by
    have hx := List.getElem?_eq_getElem (l := xs) (i := i) (by omega)
    rw [take_count x hx, ← dealt_count H hH xs x i (by omega)]
    have hm := Nat.mod_lt i hH
    have e : ∀ j, j < H → (dealt H xs (i + 1) j).count x = if j = i % H then (dealt H xs i j).count x + (if xs[i] = x then 1 else 0) else (dealt H xs i j).count x := fun j _ => by
      simp only [dealt]
      split
      · rw [List.count_append]
        have hg : xs.getD i 0 = xs[i] := by simp [List.getD_eq_getElem?_getD, hx]
        rw [hg]
        simp [List.count_cons]
      · rfl
    rw [sumTo_congr e, sumTo_one, if_pos hm]

set_option maxRecDepth 100000 in
set_option maxHeartbeats 4000000 in
theorem deal_bad (ho : orc 42 = none) {h : AH} {v : AV} {xs : List Int} (hr : IntRow h v xs) {hands each : Int} (hb : hands < 1 ∨ 64 < hands ∨ each < 0 ∨ (xs.length : Int).tdiv hands < each) (hl : xs.length ≤ 1152921504606846976) :
    acall orc T 42 [v, .int .i64 hands, .int .i64 each] h = some (.tuple [.slice none 0 (.exact 0), .slice none 0 (.exact 0), .int .i64 2], h) := by
  refine acall_sym ho tbl42 ?_
  have hlen := hr.len
  dsimp only [List.length, List.replicate, List.append, List.cons_append, List.nil_append, Nat.reduceAdd, Nat.reduceSub]
  by_cases h1 : hands < 1
  · have l1 : decide (hands < 1) = true := by simp [h1]
    repeat' first | (simp only [op_lenS, lenSV_str, op_lenV, lenV_slice, op_toInt, toIntV_int, op_iaddrS, RetK_inv, RetK_inv_exit, RetK_inv_ret, Nat.add_assoc, Nat.reduceEqDiff, Nat.reduceBEq, Nat.reduceBNe, Nat.le_min, Nat.le_add_right, Nat.min_self, Int.reduceBEq, Int.reduceBNe, Int.reduceLT, Int.reduceLE, Int.reduceEq, beq_self_eq_true, bne_self_eq_false, Bool.not_true, Bool.not_false, decide_true, decide_false, decide_eq_true_eq, Bool.and_eq_true, List.mapM_cons, List.mapM_nil, Option.bind_eq_bind, Option.pure_def, aeqK_agg, aeqK_scal, leavesK_nil, leavesK_cons, leafK_i, leafK_b, leafK_s, DrawK_nil, DrawK_cons, DrawK_guard, DResK_some, DGuardK_tt, DGuardK_ff, DGuardK_tf, DGuardK_ft, DGuardK_u, kept_load, Kept, KeptOne, closeOp, CO.quiet, CO.reads, CodeK_seq, CodeK_region, CodeK_skip, CodeK_ret, CodeK_exit, CodeK_cond, CodeK_block, CondK_true, CondK_false, RunK_cons, RunK_nil, RunK_guard, GuardK_tt, GuardK_ff, GuardK_tf, GuardK_ft, GuardK_u, ResK_some, RetK_nil, RetK_seq, RetK_seq_exit, RetK_seq_ret, RetK_block, RetK_block_ret, RetK_block_exit, RetK_block_exit_ne, op_mv, op_un, op_bin, op_load, loadV_ptr, op_faddr, faddrV_ptr, op_pick, pickV_true, pickV_false, pickV_bool, pickV_same, op_box, boxV_agg, op_call, op_build, op_ext, op_alloc, op_store, storeV_ptr, List.all_cons, List.all_nil, AV.one, AV.cells, Bool.and_self, Bool.and_true, Bool.true_and, put, CA.ev, List.set_cons_zero, List.set_cons_succ, List.getD_cons_zero, List.getD_cons_succ, abin, aint, aun, isShift, Option.map_some, Option.bind_some, List.map_cons, List.map_nil, Hp.n_withLow, Hp.n_push, Hp.n_set, Hp.low_withLow, Hp.low_push, Hp.low_set, Hp.get_push, Hp.get_set, Hp.get_withLow, readVar, readCell, readCells, writeCells, cut, fillA, Bool.false_eq_true, if_false, if_true, reduceIte, List.getElem?_cons_zero, List.getElem?_cons_succ, Nat.zero_add, Nat.add_zero, Nat.reduceAdd, Nat.reduceSub, Nat.reduceLT, Nat.reduceLeDiff, Nat.reduceEqDiff, List.length_cons, List.length_nil, List.take_succ_cons, List.take_zero, List.drop_zero, List.drop_succ_cons, List.cons_append, List.nil_append, List.append_nil, DoneK, resAll, resOne, AV.under, AV.unders, and_true, true_and, and_self, or_true, true_or, cond_true, cond_false, Nat.le_refl, Nat.add_eq_left, Nat.left_eq_add, Nat.add_right_cancel_iff, Nat.add_left_cancel_iff, hlen, l1, *]) | (refine GuardK_split (fun hb => ?_) (fun hb => ?_)) | (refine CondK_split (fun hb => ?_) (fun hb => ?_)) | (refine CodeK_regionD _ ?_) | (refine DGuardK_split (fun hb => ?_) (fun hb => ?_))
  by_cases h2 : 64 < hands
  · have l1 : decide (hands < 1) = false := by simp; omega
    have l2 : decide (64 < hands) = true := by simp [h2]
    repeat' first | (simp only [op_lenS, lenSV_str, op_lenV, lenV_slice, op_toInt, toIntV_int, op_iaddrS, RetK_inv, RetK_inv_exit, RetK_inv_ret, Nat.add_assoc, Nat.reduceEqDiff, Nat.reduceBEq, Nat.reduceBNe, Nat.le_min, Nat.le_add_right, Nat.min_self, Int.reduceBEq, Int.reduceBNe, Int.reduceLT, Int.reduceLE, Int.reduceEq, beq_self_eq_true, bne_self_eq_false, Bool.not_true, Bool.not_false, decide_true, decide_false, decide_eq_true_eq, Bool.and_eq_true, List.mapM_cons, List.mapM_nil, Option.bind_eq_bind, Option.pure_def, aeqK_agg, aeqK_scal, leavesK_nil, leavesK_cons, leafK_i, leafK_b, leafK_s, DrawK_nil, DrawK_cons, DrawK_guard, DResK_some, DGuardK_tt, DGuardK_ff, DGuardK_tf, DGuardK_ft, DGuardK_u, kept_load, Kept, KeptOne, closeOp, CO.quiet, CO.reads, CodeK_seq, CodeK_region, CodeK_skip, CodeK_ret, CodeK_exit, CodeK_cond, CodeK_block, CondK_true, CondK_false, RunK_cons, RunK_nil, RunK_guard, GuardK_tt, GuardK_ff, GuardK_tf, GuardK_ft, GuardK_u, ResK_some, RetK_nil, RetK_seq, RetK_seq_exit, RetK_seq_ret, RetK_block, RetK_block_ret, RetK_block_exit, RetK_block_exit_ne, op_mv, op_un, op_bin, op_load, loadV_ptr, op_faddr, faddrV_ptr, op_pick, pickV_true, pickV_false, pickV_bool, pickV_same, op_box, boxV_agg, op_call, op_build, op_ext, op_alloc, op_store, storeV_ptr, List.all_cons, List.all_nil, AV.one, AV.cells, Bool.and_self, Bool.and_true, Bool.true_and, put, CA.ev, List.set_cons_zero, List.set_cons_succ, List.getD_cons_zero, List.getD_cons_succ, abin, aint, aun, isShift, Option.map_some, Option.bind_some, List.map_cons, List.map_nil, Hp.n_withLow, Hp.n_push, Hp.n_set, Hp.low_withLow, Hp.low_push, Hp.low_set, Hp.get_push, Hp.get_set, Hp.get_withLow, readVar, readCell, readCells, writeCells, cut, fillA, Bool.false_eq_true, if_false, if_true, reduceIte, List.getElem?_cons_zero, List.getElem?_cons_succ, Nat.zero_add, Nat.add_zero, Nat.reduceAdd, Nat.reduceSub, Nat.reduceLT, Nat.reduceLeDiff, Nat.reduceEqDiff, List.length_cons, List.length_nil, List.take_succ_cons, List.take_zero, List.drop_zero, List.drop_succ_cons, List.cons_append, List.nil_append, List.append_nil, DoneK, resAll, resOne, AV.under, AV.unders, and_true, true_and, and_self, or_true, true_or, cond_true, cond_false, Nat.le_refl, Nat.add_eq_left, Nat.left_eq_add, Nat.add_right_cancel_iff, Nat.add_left_cancel_iff, hlen, l1, l2, *]) | (refine GuardK_split (fun hb => ?_) (fun hb => ?_)) | (refine CondK_split (fun hb => ?_) (fun hb => ?_)) | (refine CodeK_regionD _ ?_) | (refine DGuardK_split (fun hb => ?_) (fun hb => ?_))
  by_cases h3 : each < 0
  · have l1 : decide (hands < 1) = false := by simp; omega
    have l2 : decide (64 < hands) = false := by simp; omega
    have l3 : decide (each < 0) = true := by simp [h3]
    repeat' first | (simp only [op_lenS, lenSV_str, op_lenV, lenV_slice, op_toInt, toIntV_int, op_iaddrS, RetK_inv, RetK_inv_exit, RetK_inv_ret, Nat.add_assoc, Nat.reduceEqDiff, Nat.reduceBEq, Nat.reduceBNe, Nat.le_min, Nat.le_add_right, Nat.min_self, Int.reduceBEq, Int.reduceBNe, Int.reduceLT, Int.reduceLE, Int.reduceEq, beq_self_eq_true, bne_self_eq_false, Bool.not_true, Bool.not_false, decide_true, decide_false, decide_eq_true_eq, Bool.and_eq_true, List.mapM_cons, List.mapM_nil, Option.bind_eq_bind, Option.pure_def, aeqK_agg, aeqK_scal, leavesK_nil, leavesK_cons, leafK_i, leafK_b, leafK_s, DrawK_nil, DrawK_cons, DrawK_guard, DResK_some, DGuardK_tt, DGuardK_ff, DGuardK_tf, DGuardK_ft, DGuardK_u, kept_load, Kept, KeptOne, closeOp, CO.quiet, CO.reads, CodeK_seq, CodeK_region, CodeK_skip, CodeK_ret, CodeK_exit, CodeK_cond, CodeK_block, CondK_true, CondK_false, RunK_cons, RunK_nil, RunK_guard, GuardK_tt, GuardK_ff, GuardK_tf, GuardK_ft, GuardK_u, ResK_some, RetK_nil, RetK_seq, RetK_seq_exit, RetK_seq_ret, RetK_block, RetK_block_ret, RetK_block_exit, RetK_block_exit_ne, op_mv, op_un, op_bin, op_load, loadV_ptr, op_faddr, faddrV_ptr, op_pick, pickV_true, pickV_false, pickV_bool, pickV_same, op_box, boxV_agg, op_call, op_build, op_ext, op_alloc, op_store, storeV_ptr, List.all_cons, List.all_nil, AV.one, AV.cells, Bool.and_self, Bool.and_true, Bool.true_and, put, CA.ev, List.set_cons_zero, List.set_cons_succ, List.getD_cons_zero, List.getD_cons_succ, abin, aint, aun, isShift, Option.map_some, Option.bind_some, List.map_cons, List.map_nil, Hp.n_withLow, Hp.n_push, Hp.n_set, Hp.low_withLow, Hp.low_push, Hp.low_set, Hp.get_push, Hp.get_set, Hp.get_withLow, readVar, readCell, readCells, writeCells, cut, fillA, Bool.false_eq_true, if_false, if_true, reduceIte, List.getElem?_cons_zero, List.getElem?_cons_succ, Nat.zero_add, Nat.add_zero, Nat.reduceAdd, Nat.reduceSub, Nat.reduceLT, Nat.reduceLeDiff, Nat.reduceEqDiff, List.length_cons, List.length_nil, List.take_succ_cons, List.take_zero, List.drop_zero, List.drop_succ_cons, List.cons_append, List.nil_append, List.append_nil, DoneK, resAll, resOne, AV.under, AV.unders, and_true, true_and, and_self, or_true, true_or, cond_true, cond_false, Nat.le_refl, Nat.add_eq_left, Nat.left_eq_add, Nat.add_right_cancel_iff, Nat.add_left_cancel_iff, hlen, l1, l2, l3, *]) | (refine GuardK_split (fun hb => ?_) (fun hb => ?_)) | (refine CondK_split (fun hb => ?_) (fun hb => ?_)) | (refine CodeK_regionD _ ?_) | (refine DGuardK_split (fun hb => ?_) (fun hb => ?_))
  · have l1 : decide (hands < 1) = false := by simp; omega
    have l2 : decide (64 < hands) = false := by simp; omega
    have l3 : decide (each < 0) = false := by simp; omega
    have hq0 : 0 ≤ (xs.length : Int).tdiv hands := Int.tdiv_nonneg (by omega) (by omega)
    have hq1 : (xs.length : Int).tdiv hands ≤ xs.length := by
      exact Int.tdiv_le_self hands (by omega)
    have w1 : IntKind.wrap .i64 ((xs.length : Int).tdiv hands) = (xs.length : Int).tdiv hands := wrap_i64 (by omega) (by omega)
    have l4 : decide ((xs.length : Int).tdiv hands < each) = true := by rw [decide_eq_true_eq]; omega
    have n0 : (hands = 0) = False := by simp; omega
    repeat' first | (simp only [op_lenS, lenSV_str, op_lenV, lenV_slice, op_toInt, toIntV_int, op_iaddrS, RetK_inv, RetK_inv_exit, RetK_inv_ret, Nat.add_assoc, Nat.reduceEqDiff, Nat.reduceBEq, Nat.reduceBNe, Nat.le_min, Nat.le_add_right, Nat.min_self, Int.reduceBEq, Int.reduceBNe, Int.reduceLT, Int.reduceLE, Int.reduceEq, beq_self_eq_true, bne_self_eq_false, Bool.not_true, Bool.not_false, decide_true, decide_false, decide_eq_true_eq, Bool.and_eq_true, List.mapM_cons, List.mapM_nil, Option.bind_eq_bind, Option.pure_def, aeqK_agg, aeqK_scal, leavesK_nil, leavesK_cons, leafK_i, leafK_b, leafK_s, DrawK_nil, DrawK_cons, DrawK_guard, DResK_some, DGuardK_tt, DGuardK_ff, DGuardK_tf, DGuardK_ft, DGuardK_u, kept_load, Kept, KeptOne, closeOp, CO.quiet, CO.reads, CodeK_seq, CodeK_region, CodeK_skip, CodeK_ret, CodeK_exit, CodeK_cond, CodeK_block, CondK_true, CondK_false, RunK_cons, RunK_nil, RunK_guard, GuardK_tt, GuardK_ff, GuardK_tf, GuardK_ft, GuardK_u, ResK_some, RetK_nil, RetK_seq, RetK_seq_exit, RetK_seq_ret, RetK_block, RetK_block_ret, RetK_block_exit, RetK_block_exit_ne, op_mv, op_un, op_bin, op_load, loadV_ptr, op_faddr, faddrV_ptr, op_pick, pickV_true, pickV_false, pickV_bool, pickV_same, op_box, boxV_agg, op_call, op_build, op_ext, op_alloc, op_store, storeV_ptr, List.all_cons, List.all_nil, AV.one, AV.cells, Bool.and_self, Bool.and_true, Bool.true_and, put, CA.ev, List.set_cons_zero, List.set_cons_succ, List.getD_cons_zero, List.getD_cons_succ, abin, aint, aun, isShift, Option.map_some, Option.bind_some, List.map_cons, List.map_nil, Hp.n_withLow, Hp.n_push, Hp.n_set, Hp.low_withLow, Hp.low_push, Hp.low_set, Hp.get_push, Hp.get_set, Hp.get_withLow, readVar, readCell, readCells, writeCells, cut, fillA, Bool.false_eq_true, if_false, if_true, reduceIte, List.getElem?_cons_zero, List.getElem?_cons_succ, Nat.zero_add, Nat.add_zero, Nat.reduceAdd, Nat.reduceSub, Nat.reduceLT, Nat.reduceLeDiff, Nat.reduceEqDiff, List.length_cons, List.length_nil, List.take_succ_cons, List.take_zero, List.drop_zero, List.drop_succ_cons, List.cons_append, List.nil_append, List.append_nil, DoneK, resAll, resOne, AV.under, AV.unders, and_true, true_and, and_self, or_true, true_or, cond_true, cond_false, Nat.le_refl, Nat.add_eq_left, Nat.left_eq_add, Nat.add_right_cancel_iff, Nat.add_left_cancel_iff, hlen, l1, l2, l3, l4, w1, n0, *]) | (refine GuardK_split (fun hb => ?_) (fun hb => ?_)) | (refine CondK_split (fun hb => ?_) (fun hb => ?_)) | (refine CodeK_regionD _ ?_) | (refine DGuardK_split (fun hb => ?_) (fun hb => ?_))

structure InvD (h0 : AH) (b0 H N : Nat) (v36 : AV) (v : AV) (E : Int) (xs : List Int) (n : Nat) (tm : List AV) (h : AH) : Prop where
  len : tm.length = 65
  t0 : tm.getD 0 AV.undef = v
  t1 : tm.getD 1 AV.undef = .int .i64 (H : Int)
  t2 : tm.getD 2 AV.undef = .int .i64 E
  t9 : tm.getD 9 AV.undef = .slice (some (b0, 0)) H (.exact H)
  t36 : tm.getD 36 AV.undef = v36
  t37 : tm.getD 37 AV.undef = .int .i64 (N : Int)
  ext : Ext h0 h
  bn : b0 < h.n
  st : ∃ (i : Nat) (own : Nat → Nat) (vs : List AV), n = N - i ∧ i ≤ N ∧ tm.getD 38 AV.undef = .int .i64 (i : Int) ∧ own b0 = H ∧ (∀ b, b < h0.n → H ≤ own b) ∧ h.get b0 = some (.cells vs false) ∧ vs.length = H ∧ ∀ j, j < H → ∃ vj, vs[j]? = some vj ∧ Fr h0.n h own j vj (dealt H xs i j)

def DealR (h : AH) (H N : Nat) (xs : List Int) (v1 : AV) (h1 : AH) : Prop :=
  ∃ (g : AV) (b0 : Nat) (own : Nat → Nat) (vs : List AV), v1 = .tuple [.slice (some (b0, 0)) H (.exact H), g, .int .i64 0] ∧ Ext h h1 ∧ h.n ≤ b0 ∧ b0 < h1.n ∧ own b0 = H ∧ h1.get b0 = some (.cells vs false) ∧ vs.length = H ∧
    (∀ j, j < H → ∃ vj, vs[j]? = some vj ∧ Fr h.n h1 own j vj (dealt H xs N j)) ∧ Fresh h.n h1 g (xs.drop N)

theorem reps_at (z : AV) : ∀ n j, j < n → (Fs.reps [z] n)[j]? = some z
  | n + 1, 0, _ => rfl
  | n + 1, j + 1, h => by
    have := reps_at z n j (by omega)
    simpa [Fs.reps] using this

set_option maxRecDepth 100000 in
set_option maxHeartbeats 8000000 in
theorem deal_ok (ho : orc 42 = none) {h : AH} {v : AV} {xs : List Int} (hr : IntRow h v xs) (hl : xs.length * 8 ≤ 140737488355328) {H E : Nat} (hH : 0 < H) (hH2 : H ≤ 64) (hE : E ≤ xs.length / H) :
    ∃ v1 h1, acall orc T 42 [v, .int .i64 (H : Int), .int .i64 (E : Int)] h = some (v1, h1) ∧ DealR h H (H * E) xs v1 h1 := by
  refine acall_facts (R := DealR h H (H * E) xs) ho tbl42 ?_
  have hlen := hr.len
  have hN : H * E ≤ xs.length := Nat.le_trans (Nat.mul_le_mul_left H hE) (Nat.mul_div_le _ _)
  have l1 : decide ((H : Int) < 1) = false := by simp; omega
  have l2 : decide ((64 : Int) < (H : Int)) = false := by simp; omega
  have l3 : decide ((E : Int) < 0) = false := by simp
  have n0 : ((H : Int) = 0) = False := by simp; omega
  have ht : (xs.length : Int).tdiv (H : Int) = ((xs.length / H : Nat) : Int) := by rw [Int.tdiv_eq_ediv_of_nonneg (by omega)]; rfl
  have hdl : xs.length / H ≤ xs.length := Nat.div_le_self _ _
  have w1 : IntKind.wrap .i64 ((xs.length / H : Nat) : Int) = ((xs.length / H : Nat) : Int) := wrap_i64 (by omega) (by omega)
  have l4 : decide (((xs.length / H : Nat) : Int) < (E : Int)) = false := by rw [decide_eq_false_iff_not]; omega
  have w2 : IntKind.wrap .i64 ((H : Int) * (E : Int)) = ((H * E : Nat) : Int) := by
    rw [← Int.natCast_mul, wrap_i64 (by omega) (by omega)]
  obtain ⟨v36, s1, hr36⟩ := slc_hi hr hN
  obtain ⟨v63, s2, hr63⟩ := slc_lo hr hN
  have hl36 := hr36.len
  have htl : (xs.take (H * E)).length = H * E := by rw [List.length_take]; omega
  rw [htl] at hl36
  have mk := fun hx : AH => mkSV_at (bytes := 24) (zero := [AV.slice none 0 (.exact 0)]) (k := .i64) (k' := .i64) (l := H) (c := H) (h := hx) (Nat.le_refl _) (by omega) (by omega)
  dsimp only [List.length, List.replicate, List.append, List.cons_append, List.nil_append, Nat.reduceAdd, Nat.reduceSub]
  repeat' first | (simp only [op_lenS, lenSV_str, op_lenV, lenV_slice, op_toInt, toIntV_int, op_iaddrS, RetK_inv, RetK_inv_exit, RetK_inv_ret, Nat.add_assoc, Nat.reduceEqDiff, Nat.reduceBEq, Nat.reduceBNe, Nat.le_min, Nat.le_add_right, Nat.min_self, Int.reduceBEq, Int.reduceBNe, Int.reduceLT, Int.reduceLE, Int.reduceEq, beq_self_eq_true, bne_self_eq_false, Bool.not_true, Bool.not_false, decide_true, decide_false, decide_eq_true_eq, Bool.and_eq_true, List.mapM_cons, List.mapM_nil, Option.bind_eq_bind, Option.pure_def, aeqK_agg, aeqK_scal, leavesK_nil, leavesK_cons, leafK_i, leafK_b, leafK_s, DrawK_nil, DrawK_cons, DrawK_guard, DResK_some, DGuardK_tt, DGuardK_ff, DGuardK_tf, DGuardK_ft, DGuardK_u, kept_load, Kept, KeptOne, closeOp, CO.quiet, CO.reads, CodeK_seq, CodeK_region, CodeK_skip, CodeK_ret, CodeK_exit, CodeK_cond, CodeK_block, CondK_true, CondK_false, RunK_cons, RunK_nil, RunK_guard, GuardK_tt, GuardK_ff, GuardK_tf, GuardK_ft, GuardK_u, ResK_some, RetK_nil, RetK_seq, RetK_seq_exit, RetK_seq_ret, RetK_block, RetK_block_ret, RetK_block_exit, RetK_block_exit_ne, op_mv, op_un, op_bin, op_load, loadV_ptr, op_faddr, faddrV_ptr, op_pick, pickV_true, pickV_false, pickV_bool, pickV_same, op_box, boxV_agg, op_call, op_build, op_ext, op_alloc, op_store, storeV_ptr, List.all_cons, List.all_nil, AV.one, AV.cells, Bool.and_self, Bool.and_true, Bool.true_and, put, CA.ev, List.set_cons_zero, List.set_cons_succ, List.getD_cons_zero, List.getD_cons_succ, abin, aint, aun, isShift, Option.map_some, Option.bind_some, List.map_cons, List.map_nil, Hp.n_withLow, Hp.n_push, Hp.n_set, Hp.low_withLow, Hp.low_push, Hp.low_set, Hp.get_push, Hp.get_set, Hp.get_withLow, readVar, readCell, readCells, writeCells, cut, fillA, Bool.false_eq_true, if_false, if_true, reduceIte, List.getElem?_cons_zero, List.getElem?_cons_succ, Nat.zero_add, Nat.add_zero, Nat.reduceAdd, Nat.reduceSub, Nat.reduceLT, Nat.reduceLeDiff, Nat.reduceEqDiff, List.length_cons, List.length_nil, List.take_succ_cons, List.take_zero, List.drop_zero, List.drop_succ_cons, List.cons_append, List.nil_append, List.append_nil, DoneK, resAll, resOne, AV.under, AV.unders, and_true, true_and, and_self, or_true, true_or, cond_true, cond_false, Nat.le_refl, Nat.add_eq_left, Nat.left_eq_add, Nat.add_right_cancel_iff, Nat.add_left_cancel_iff, hlen, hl36, l1, l2, l3, l4, w1, w2, n0, ht, op_mkS, mk, op_slcV, s1, s2, *]) | (refine GuardK_split (fun hb => ?_) (fun hb => ?_)) | (refine CondK_split (fun hb => ?_) (fun hb => ?_)) | (refine CodeK_regionD _ ?_) | (refine DGuardK_split (fun hb => ?_) (fun hb => ?_))
  generalize hNN : H * E = N at *
  refine CodeK_loop (InvD h h.n H N v36 v E xs) N ?_ ?_
  · refine ⟨rfl, rfl, rfl, rfl, rfl, rfl, rfl, (Ext.low h h.n).trans (Ext.push _ _), by simp, 0, fun b => H, Fs.reps [.slice none 0 (.exact 0)] H, by omega, by omega, rfl, rfl, fun b _ => Nat.le_refl _, ?_, reps_length _ _, fun j hj => ⟨_, reps_at _ _ _ hj, .inl ⟨rfl, rfl⟩⟩⟩
    simp only [Hp.get_push, Hp.n_withLow, if_true]
  · intro n tm h' I
    obtain ⟨i, own, vs, hn, hi, e38, hob, hoN, hg0, hvl, hrow⟩ := I.st
    have el := I.len
    have e0 := I.t0
    have e1 := I.t1
    have e2 := I.t2
    have e9 := I.t9
    have e36 := I.t36
    have e37 := I.t37
    have hext := I.ext
    have hbn := I.bn
    by_cases hlt : i < N
    case neg =>
      have hiN : i = N := by omega
      subst hiN
      have m1 : decide ((i : Int) < (i : Int)) = false := by simp
      repeat' first | (simp only [op_lenS, lenSV_str, op_lenV, lenV_slice, op_toInt, toIntV_int, op_iaddrS, RetK_inv, RetK_inv_exit, RetK_inv_ret, Nat.add_assoc, Nat.reduceEqDiff, Nat.reduceBEq, Nat.reduceBNe, Nat.le_min, Nat.le_add_right, Nat.min_self, Int.reduceBEq, Int.reduceBNe, Int.reduceLT, Int.reduceLE, Int.reduceEq, beq_self_eq_true, bne_self_eq_false, Bool.not_true, Bool.not_false, decide_true, decide_false, decide_eq_true_eq, Bool.and_eq_true, List.mapM_cons, List.mapM_nil, Option.bind_eq_bind, Option.pure_def, aeqK_agg, aeqK_scal, leavesK_nil, leavesK_cons, leafK_i, leafK_b, leafK_s, DrawK_nil, DrawK_cons, DrawK_guard, DResK_some, DGuardK_tt, DGuardK_ff, DGuardK_tf, DGuardK_ft, DGuardK_u, kept_load, Kept, KeptOne, closeOp, CO.quiet, CO.reads, CodeK_seq, CodeK_region, CodeK_skip, CodeK_ret, CodeK_exit, CodeK_cond, CodeK_block, CondK_true, CondK_false, RunK_cons, RunK_nil, RunK_guard, GuardK_tt, GuardK_ff, GuardK_tf, GuardK_ft, GuardK_u, ResK_some, RetK_nil, RetK_seq, RetK_seq_exit, RetK_seq_ret, RetK_block, RetK_block_ret, RetK_block_exit, RetK_block_exit_ne, op_mv, op_un, op_bin, op_load, loadV_ptr, op_faddr, faddrV_ptr, op_pick, pickV_true, pickV_false, pickV_bool, pickV_same, op_box, boxV_agg, op_call, op_build, op_ext, op_alloc, op_store, storeV_ptr, List.all_cons, List.all_nil, AV.one, AV.cells, Bool.and_self, Bool.and_true, Bool.true_and, put, CA.ev, List.set_cons_zero, List.set_cons_succ, List.getD_cons_zero, List.getD_cons_succ, abin, aint, aun, isShift, Option.map_some, Option.bind_some, List.map_cons, List.map_nil, Hp.n_withLow, Hp.n_push, Hp.n_set, Hp.low_withLow, Hp.low_push, Hp.low_set, Hp.get_push, Hp.get_set, Hp.get_withLow, readVar, readCell, readCells, writeCells, cut, fillA, Bool.false_eq_true, if_false, if_true, reduceIte, List.getElem?_cons_zero, List.getElem?_cons_succ, Nat.zero_add, Nat.add_zero, Nat.reduceAdd, Nat.reduceSub, Nat.reduceLT, Nat.reduceLeDiff, Nat.reduceEqDiff, List.length_cons, List.length_nil, List.take_succ_cons, List.take_zero, List.drop_zero, List.drop_succ_cons, List.cons_append, List.nil_append, List.append_nil, DoneK, resAll, resOne, AV.under, AV.unders, and_true, true_and, and_self, or_true, true_or, cond_true, cond_false, Nat.le_refl, Nat.add_eq_left, Nat.left_eq_add, Nat.add_right_cancel_iff, Nat.add_left_cancel_iff, el, e0, e1, e2, e9, e36, e37, e38, m1, w2, op_slcV, s2, op_append, tmset_self, tmset_ne, List.length_set, Nat.reduceBEq, Nat.reduceLT, *]) | (refine GuardK_split (fun hb => ?_) (fun hb => ?_)) | (refine CondK_split (fun hb => ?_) (fun hb => ?_)) | (refine CodeK_regionD _ ?_) | (refine DGuardK_split (fun hb => ?_) (fun hb => ?_))
      refine ResK_ex (app_nil (hr63.ext hext) (by rw [List.length_drop]; omega)) fun v2 h2 hL => ?_
      obtain ⟨hf, he, _⟩ := hL
      replace hf := hf.le hext.1
      have he' := hext.trans he
      repeat' first | (simp only [op_lenS, lenSV_str, op_lenV, lenV_slice, op_toInt, toIntV_int, op_iaddrS, RetK_inv, RetK_inv_exit, RetK_inv_ret, Nat.add_assoc, Nat.reduceEqDiff, Nat.reduceBEq, Nat.reduceBNe, Nat.le_min, Nat.le_add_right, Nat.min_self, Int.reduceBEq, Int.reduceBNe, Int.reduceLT, Int.reduceLE, Int.reduceEq, beq_self_eq_true, bne_self_eq_false, Bool.not_true, Bool.not_false, decide_true, decide_false, decide_eq_true_eq, Bool.and_eq_true, List.mapM_cons, List.mapM_nil, Option.bind_eq_bind, Option.pure_def, aeqK_agg, aeqK_scal, leavesK_nil, leavesK_cons, leafK_i, leafK_b, leafK_s, DrawK_nil, DrawK_cons, DrawK_guard, DResK_some, DGuardK_tt, DGuardK_ff, DGuardK_tf, DGuardK_ft, DGuardK_u, kept_load, Kept, KeptOne, closeOp, CO.quiet, CO.reads, CodeK_seq, CodeK_region, CodeK_skip, CodeK_ret, CodeK_exit, CodeK_cond, CodeK_block, CondK_true, CondK_false, RunK_cons, RunK_nil, RunK_guard, GuardK_tt, GuardK_ff, GuardK_tf, GuardK_ft, GuardK_u, ResK_some, RetK_nil, RetK_seq, RetK_seq_exit, RetK_seq_ret, RetK_block, RetK_block_ret, RetK_block_exit, RetK_block_exit_ne, op_mv, op_un, op_bin, op_load, loadV_ptr, op_faddr, faddrV_ptr, op_pick, pickV_true, pickV_false, pickV_bool, pickV_same, op_box, boxV_agg, op_call, op_build, op_ext, op_alloc, op_store, storeV_ptr, List.all_cons, List.all_nil, AV.one, AV.cells, Bool.and_self, Bool.and_true, Bool.true_and, put, CA.ev, List.set_cons_zero, List.set_cons_succ, List.getD_cons_zero, List.getD_cons_succ, abin, aint, aun, isShift, Option.map_some, Option.bind_some, List.map_cons, List.map_nil, Hp.n_withLow, Hp.n_push, Hp.n_set, Hp.low_withLow, Hp.low_push, Hp.low_set, Hp.get_push, Hp.get_set, Hp.get_withLow, readVar, readCell, readCells, writeCells, cut, fillA, Bool.false_eq_true, if_false, if_true, reduceIte, List.getElem?_cons_zero, List.getElem?_cons_succ, Nat.zero_add, Nat.add_zero, Nat.reduceAdd, Nat.reduceSub, Nat.reduceLT, Nat.reduceLeDiff, Nat.reduceEqDiff, List.length_cons, List.length_nil, List.take_succ_cons, List.take_zero, List.drop_zero, List.drop_succ_cons, List.cons_append, List.nil_append, List.append_nil, DoneK, resAll, resOne, AV.under, AV.unders, and_true, true_and, and_self, or_true, true_or, cond_true, cond_false, Nat.le_refl, Nat.add_eq_left, Nat.left_eq_add, Nat.add_right_cancel_iff, Nat.add_left_cancel_iff, el, e0, e1, e2, e9, e36, e37, e38, Option.some.injEq, tmset_self, tmset_ne, List.length_set, Nat.reduceBEq, Nat.reduceLT, *]) | (refine GuardK_split (fun hb => ?_) (fun hb => ?_)) | (refine CondK_split (fun hb => ?_) (fun hb => ?_)) | (refine CodeK_regionD _ ?_) | (refine DGuardK_split (fun hb => ?_) (fun hb => ?_))
      refine ⟨_, rfl, ?_⟩
      rw [settle_new (by simp [AV.under, AV.unders])]
      refine ⟨v2, h.n, own, vs, rfl, he'.trans (Ext.low _ _), Nat.le_refl _, ?_, hob, ?_, hvl, fun j hj => ?_, hf.ext (Ext.low _ _)⟩
      · have := he.1
        simp only [Hp.n_withLow]; omega
      · simp only [Hp.get_withLow]; rw [he.2 _ hbn, hg0]
      · obtain ⟨vj, k1, k2⟩ := hrow j hj
        exact ⟨vj, k1, k2.mono (by simpa using he.1) (fun _ _ h => h) fun b hb _ => by simp only [Hp.get_withLow]; exact he.2 b hb⟩
    case pos =>
      have m1 : decide ((i : Int) < (N : Int)) = true := by simp; omega
      have hx := List.getElem?_eq_getElem (l := xs) (i := i) (by omega)
      have hgd : xs.getD i 0 = xs[i]'(by omega) := by simp [List.getD_eq_getElem?_getD, hx]
      generalize xs[i]'(by omega) = x at hx hgd
      have hx' : (xs.take N)[i]? = some x := by rw [List.getElem?_take_of_lt hlt, hx]
      obtain ⟨b, o, cells, ro, ha, g1, g2, g3⟩ := (hr36.ext hext).at hx'
      have hj := Nat.mod_lt i hH
      have hm : ((i : Int)).tmod (H : Int) = ((i % H : Nat) : Int) := by rw [Int.tmod_eq_emod_of_nonneg (by omega)]; rfl
      obtain ⟨vj, k1, k2⟩ := hrow (i % H) hj
      have ia : ∀ hy : AH, iaddrV 1 (.slice (some (h.n, 0)) H (.exact H)) (.int .i64 ((i % H : Nat) : Int)) hy = some (.ptr (some (h.n, i % H)), hy) := fun hy => by rw [iaddrV_nat hj, Nat.mul_one, Nat.zero_add]
      have w3 : IntKind.wrap .i64 ((i : Int) + 1) = ((i + 1 : Nat) : Int) := by rw [wrap_i64 (by omega) (by omega)]; omega
      have hdl2 := dealt_length H xs i (i % H)
      have o3 : ∀ a y : AV, Fs.over [a] 0 [y] = [y] := fun _ _ => rfl
      have r1 : ∀ a : AV, Fs.reps [a] 1 = [a] := fun _ => rfl
      have nb : ¬ h.n = h'.n := by omega
      repeat' first | (simp only [op_lenS, lenSV_str, op_lenV, lenV_slice, op_toInt, toIntV_int, op_iaddrS, RetK_inv, RetK_inv_exit, RetK_inv_ret, Nat.add_assoc, Nat.reduceEqDiff, Nat.reduceBEq, Nat.reduceBNe, Nat.le_min, Nat.le_add_right, Nat.min_self, Int.reduceBEq, Int.reduceBNe, Int.reduceLT, Int.reduceLE, Int.reduceEq, beq_self_eq_true, bne_self_eq_false, Bool.not_true, Bool.not_false, decide_true, decide_false, decide_eq_true_eq, Bool.and_eq_true, List.mapM_cons, List.mapM_nil, Option.bind_eq_bind, Option.pure_def, aeqK_agg, aeqK_scal, leavesK_nil, leavesK_cons, leafK_i, leafK_b, leafK_s, DrawK_nil, DrawK_cons, DrawK_guard, DResK_some, DGuardK_tt, DGuardK_ff, DGuardK_tf, DGuardK_ft, DGuardK_u, kept_load, Kept, KeptOne, closeOp, CO.quiet, CO.reads, CodeK_seq, CodeK_region, CodeK_skip, CodeK_ret, CodeK_exit, CodeK_cond, CodeK_block, CondK_true, CondK_false, RunK_cons, RunK_nil, RunK_guard, GuardK_tt, GuardK_ff, GuardK_tf, GuardK_ft, GuardK_u, ResK_some, RetK_nil, RetK_seq, RetK_seq_exit, RetK_seq_ret, RetK_block, RetK_block_ret, RetK_block_exit, RetK_block_exit_ne, op_mv, op_un, op_bin, op_load, loadV_ptr, op_faddr, faddrV_ptr, op_pick, pickV_true, pickV_false, pickV_bool, pickV_same, op_box, boxV_agg, op_call, op_build, op_ext, op_alloc, op_store, storeV_ptr, List.all_cons, List.all_nil, AV.one, AV.cells, Bool.and_self, Bool.and_true, Bool.true_and, put, CA.ev, List.set_cons_zero, List.set_cons_succ, List.getD_cons_zero, List.getD_cons_succ, abin, aint, aun, isShift, Option.map_some, Option.bind_some, List.map_cons, List.map_nil, Hp.n_withLow, Hp.n_push, Hp.n_set, Hp.low_withLow, Hp.low_push, Hp.low_set, Hp.get_push, Hp.get_set, Hp.get_withLow, readVar, readCell, readCells, writeCells, cut, fillA, Bool.false_eq_true, if_false, if_true, reduceIte, List.getElem?_cons_zero, List.getElem?_cons_succ, Nat.zero_add, Nat.add_zero, Nat.reduceAdd, Nat.reduceSub, Nat.reduceLT, Nat.reduceLeDiff, Nat.reduceEqDiff, List.length_cons, List.length_nil, List.take_succ_cons, List.take_zero, List.drop_zero, List.drop_succ_cons, List.cons_append, List.nil_append, List.append_nil, DoneK, resAll, resOne, AV.under, AV.unders, and_true, true_and, and_self, or_true, true_or, cond_true, cond_false, Nat.le_refl, Nat.add_eq_left, Nat.left_eq_add, Nat.add_right_cancel_iff, Nat.add_left_cancel_iff, el, e0, e1, e2, e9, e36, e37, e38, m1, hm, n0, ha, ia, g1, g2, hg0, k1, nb, op_litS, fillA, o3, r1, op_append, tmset_self, tmset_ne, List.length_set, Nat.reduceBEq, Nat.reduceLT, *]) | (refine GuardK_split (fun hb => ?_) (fun hb => ?_)) | (refine CondK_split (fun hb => ?_) (fun hb => ?_)) | (refine CodeK_regionD _ ?_) | (refine DGuardK_split (fun hb => ?_) (fun hb => ?_))
      refine DResK_ex (app_fr (N := h.n) (own := fun b => if b = h'.n then H else own b) (c := i % H) (xs := dealt H xs i (i % H)) (ys := [x]) (k2.mono (by simp) (fun b hb hc => ?_) fun b hb _ => ?_) ⟨_, _, rfl, .inl ⟨1, rfl, by simp⟩, .inr ⟨h'.n, 0, [.int .i64 x], false, rfl, by simp, by simp, rfl⟩⟩ (by simp) (by simp; omega)) fun v2 h2 hL => ?_
      · have n1 : ¬ b = h'.n := by omega
        simp only [n1, if_false]; exact hc
      · exact Hp.get_push_ne _ _ _ (by omega)
      obtain ⟨rfl, r2, r3, r4⟩ := hL
      simp only [Hp.n_push] at r2 r3 r4
      have old2 : ∀ b, b < h'.n → own b ≠ i % H → h2.get b = h'.get b := fun b hb hc => by
        have n1 : ¬ b = h'.n := by omega
        rw [r4 b (by omega) (by simp only [n1, if_false]; exact hc), Hp.get_push_ne _ _ _ n1]
      have hg0' : h2.get h.n = some (.cells vs false) := by rw [old2 h.n hbn (by omega), hg0]
      have ov : ∀ y : AV, Fs.over vs (i % H) [y] = vs.set (i % H) y := fun y => over_set (by omega) y
      have k3 : i % H + 1 ≤ H := by omega
      simp only [Hp.n_push]
      repeat' first | (simp only [op_lenS, lenSV_str, op_lenV, lenV_slice, op_toInt, toIntV_int, op_iaddrS, RetK_inv, RetK_inv_exit, RetK_inv_ret, Nat.add_assoc, Nat.reduceEqDiff, Nat.reduceBEq, Nat.reduceBNe, Nat.le_min, Nat.le_add_right, Nat.min_self, Int.reduceBEq, Int.reduceBNe, Int.reduceLT, Int.reduceLE, Int.reduceEq, beq_self_eq_true, bne_self_eq_false, Bool.not_true, Bool.not_false, decide_true, decide_false, decide_eq_true_eq, Bool.and_eq_true, List.mapM_cons, List.mapM_nil, Option.bind_eq_bind, Option.pure_def, aeqK_agg, aeqK_scal, leavesK_nil, leavesK_cons, leafK_i, leafK_b, leafK_s, DrawK_nil, DrawK_cons, DrawK_guard, DResK_some, DGuardK_tt, DGuardK_ff, DGuardK_tf, DGuardK_ft, DGuardK_u, kept_load, Kept, KeptOne, closeOp, CO.quiet, CO.reads, CodeK_seq, CodeK_region, CodeK_skip, CodeK_ret, CodeK_exit, CodeK_cond, CodeK_block, CondK_true, CondK_false, RunK_cons, RunK_nil, RunK_guard, GuardK_tt, GuardK_ff, GuardK_tf, GuardK_ft, GuardK_u, ResK_some, RetK_nil, RetK_seq, RetK_seq_exit, RetK_seq_ret, RetK_block, RetK_block_ret, RetK_block_exit, RetK_block_exit_ne, op_mv, op_un, op_bin, op_load, loadV_ptr, op_faddr, faddrV_ptr, op_pick, pickV_true, pickV_false, pickV_bool, pickV_same, op_box, boxV_agg, op_call, op_build, op_ext, op_alloc, op_store, storeV_ptr, List.all_cons, List.all_nil, AV.one, AV.cells, Bool.and_self, Bool.and_true, Bool.true_and, put, CA.ev, List.set_cons_zero, List.set_cons_succ, List.getD_cons_zero, List.getD_cons_succ, abin, aint, aun, isShift, Option.map_some, Option.bind_some, List.map_cons, List.map_nil, Hp.n_withLow, Hp.n_push, Hp.n_set, Hp.low_withLow, Hp.low_push, Hp.low_set, Hp.get_push, Hp.get_set, Hp.get_withLow, readVar, readCell, readCells, writeCells, cut, fillA, Bool.false_eq_true, if_false, if_true, reduceIte, List.getElem?_cons_zero, List.getElem?_cons_succ, Nat.zero_add, Nat.add_zero, Nat.reduceAdd, Nat.reduceSub, Nat.reduceLT, Nat.reduceLeDiff, Nat.reduceEqDiff, List.length_cons, List.length_nil, List.take_succ_cons, List.take_zero, List.drop_zero, List.drop_succ_cons, List.cons_append, List.nil_append, List.append_nil, DoneK, resAll, resOne, AV.under, AV.unders, and_true, true_and, and_self, or_true, true_or, cond_true, cond_false, Nat.le_refl, Nat.add_eq_left, Nat.left_eq_add, Nat.add_right_cancel_iff, Nat.add_left_cancel_iff, el, e0, e1, e2, e9, e36, e37, e38, hm, n0, ia, hg0, hg0', k1, nb, w3, hvl, ov, k3, tmset_self, tmset_ne, List.length_set, Nat.reduceBEq, Nat.reduceLT, *]) | (refine GuardK_split (fun hb => ?_) (fun hb => ?_)) | (refine CondK_split (fun hb => ?_) (fun hb => ?_)) | (refine CodeK_regionD _ ?_) | (refine DGuardK_split (fun hb => ?_) (fun hb => ?_))
      refine ⟨N - (i + 1), by omega, ⟨by simp only [List.length_set, el], by simp only [tmset_self, tmset_ne, List.length_set, Nat.reduceBEq, Nat.reduceLT, el, e0], by simp only [tmset_self, tmset_ne, List.length_set, Nat.reduceBEq, Nat.reduceLT, el, e1], by simp only [tmset_self, tmset_ne, List.length_set, Nat.reduceBEq, Nat.reduceLT, el, e2], by simp only [tmset_self, tmset_ne, List.length_set, Nat.reduceBEq, Nat.reduceLT, el, e9], by simp only [tmset_self, tmset_ne, List.length_set, Nat.reduceBEq, Nat.reduceLT, el, e36], by simp only [tmset_self, tmset_ne, List.length_set, Nat.reduceBEq, Nat.reduceLT, el, e37], ?_, ?_, i + 1, fun b => if b = h'.n then H else if b = h'.n + 1 then i % H else own b, vs.set (i % H) (.slice (some (h'.n + 1, 0)) (dealt H xs i (i % H) ++ [x]).length (.opn 1)), rfl, by omega, by simp only [tmset_self, tmset_ne, List.length_set, Nat.reduceBEq, Nat.reduceLT, el], ?_, fun b hb => ?_, ?_, by rw [List.length_set, hvl], fun j hj2 => ?_⟩⟩
      · have := hext.1
        refine ⟨by simp only [Hp.n_set]; omega, fun b hb => ?_⟩
        have := hoN b hb
        have n1 : ¬ b = h.n := by omega
        simp only [Hp.get_set, n1, if_false]
        rw [old2 b (by omega) (by omega), hext.2 b hb]
      · simp only [Hp.n_set]; omega
      · have n2 : ¬ h.n = h'.n + 1 := by omega
        simp only [nb, n2, if_false]; exact hob
      · have := hext.1
        have n1 : ¬ b = h'.n := by omega
        have n2 : ¬ b = h'.n + 1 := by omega
        simp only [n1, n2, if_false]; exact hoN b hb
      · simp only [Hp.get_set, if_true]
      · by_cases hjj : j = i % H
        · subst hjj
          refine ⟨_, by rw [List.getElem?_set_self (by omega)], ?_⟩
          have hd : dealt H xs (i + 1) (i % H) = dealt H xs i (i % H) ++ [x] := by simp only [dealt, if_true, hgd]
          rw [hd]
          have n1 : ¬ h'.n + 1 = h'.n := by omega
          have n2 : ¬ h'.n + 1 = h.n := by omega
          refine .inr ⟨by simp, h'.n + 1, by omega, by simp only [Hp.n_set]; omega, by simp only [n1, if_false, if_true], rfl, ?_⟩
          simp only [Hp.get_set, n2, if_false]; exact r3
        · obtain ⟨vk, q1, q2⟩ := hrow j hj2
          refine ⟨vk, by rw [List.getElem?_set_ne (by omega)]; exact q1, ?_⟩
          have hd : dealt H xs (i + 1) j = dealt H xs i j := by simp only [dealt, if_neg hjj]
          rw [hd]
          refine q2.mono (by simp only [Hp.n_set]; omega) (fun b hb hc => ?_) fun b hb hc => ?_
          · have n1 : ¬ b = h'.n := by omega
            have n2 : ¬ b = h'.n + 1 := by omega
            simp only [n1, n2, if_false]; exact hc
          · have n1 : ¬ b = h.n := fun e => by rw [e, hob] at hc; omega
            simp only [Hp.get_set, n1, if_false]
            exact old2 b hb (by omega)
end Go.Proofs.Po
