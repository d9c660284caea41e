/- Dealing, as the reference does it; what both hand back. -/
import Derived.Test.YtnhkllnggpncfaaPsTake
namespace Go.Proofs.Po
open Go Go.Fs
set_option linter.unusedSimpArgs false
set_option linter.unusedVariables false
variable {orc : Orc}

/-- A row of one's own, of any cells, of an owner's. -/
def FrC (N : Nat) (h : AH) (own : Nat → Nat) (c : Nat) (v : AV) (xs : List AV) : Prop :=
  (xs = [] ∧ v = .slice none 0 (.exact 0)) ∨ (xs ≠ [] ∧ ∃ b, N ≤ b ∧ b < h.n ∧ own b = c ∧ v = .slice (some (b, 0)) xs.length (.opn 1) ∧ h.get b = some (.cells xs false))
theorem FrC.mono {N : Nat} {h h' : AH} {own own' : Nat → Nat} {c : Nat} {v : AV} {xs : List AV} (hf : FrC N h own c v xs) (hn : h.n ≤ h'.n) (ho : ∀ b, b < h.n → own b = c → own' b = c) (hg : ∀ b, b < h.n → own b = c → h'.get b = h.get b) : FrC N h' own' c v xs := by
  rcases hf with h1 | ⟨h1, b, h2, h3, h4, h5, h6⟩
  · exact .inl h1
  · exact .inr ⟨h1, b, h2, Nat.lt_of_lt_of_le h3 hn, ho b h3 h4, h5, by rw [hg b h3 h4, h6]⟩
theorem app_frc {N : Nat} {h : AH} {own : Nat → Nat} {c bx bytes : Nat} {v x : AV} {R : List AV} (hf : FrC N h own c v R) (hone : x.one = true) (hl : (R.length + 1) * bytes ≤ 140737488355328) (hl2 : R.length ≤ 1000000) (hbx : h.get bx = some (.cells [x] false)) :
    ∃ v' h', appendRun 1 bytes v (.slice (some (bx, 0)) 1 (.exact 1)) h = some (v', h') ∧ (v' = .slice (some (h.n, 0)) (R ++ [x]).length (.opn 1) ∧ h'.n = h.n + 1 ∧ h'.get h.n = some (.cells (R ++ [x]) false) ∧ ∀ b, b < h.n → own b ≠ c → h'.get b = h.get b) := by
  have e1 : lenOf (.slice (some (bx, 0)) 1 (.exact 1)) = some 1 := rfl
  have e2 : elemsOf 1 h (.slice (some (bx, 0)) 1 (.exact 1)) = some [x] := by
    simp [elemsOf, readCells, hbx, Fs.cut]
  rcases hf with ⟨rfl, rfl⟩ | ⟨hne, b, h2, h3, h4, rfl, h5⟩
  · refine ⟨_, h.push (.cells [x] false), ?_, rfl, by simp, by simp, fun b hb _ => Hp.get_push_ne _ _ _ (by omega)⟩
    unfold appendRun
    simp only [e1, e2, Option.bind_some, appendCore, elems_nil, Nat.zero_add, List.nil_append]
    rw [if_neg (by omega), if_pos ⟨by simpa using hl, by omega⟩]
    rfl
  · have hp : 0 < R.length := List.length_pos_iff.2 hne
    have eold : elemsOf 1 h (.slice (some (b, 0)) R.length (.opn 1)) = some R := by
      unfold elemsOf
      dsimp only
      rw [if_neg (by omega)]
      simp only [readCells, h5, Nat.mul_one]
      exact cut_iff.2 ⟨by omega, by rw [List.drop_zero, List.take_length]⟩
    refine ⟨_, (h.set b .dead).push (.cells (R ++ [x]) false), ?_, rfl, by simp, by rw [show h.n = (h.set b .dead).n from rfl]; exact Hp.get_push_self _ _, fun b' hb' hc => ?_⟩
    · unfold appendRun
      simp only [e1, e2, Option.bind_some, appendCore, eold, if_true, h5, Nat.zero_add, Nat.mul_one, List.all_cons, List.all_nil, hone, Bool.and_self, and_self]
      rw [if_neg (by omega), if_neg (by omega), if_pos ⟨hl, by omega⟩, List.length_append]
      simp only [Hp.n_set, List.length_cons, List.length_nil]
    · have : b' ≠ b := fun e => hc (by rw [e, h4])
      rw [Hp.get_push_ne _ _ _ (by simp; omega), Hp.get_set_ne _ _ _ _ this]

/-- What the reference's dealing hands back. -/
def RDealR (h : AH) (H E : Nat) (xs : List Int) (v1 : AV) (h1 : AH) : Prop :=
  ∃ (w g : AV) (vs : List AV), v1 = .tuple [w, g, .int .i64 0] ∧ Ext h h1 ∧ FreshC h.n h1 w vs ∧ vs.length = H ∧ (∀ j, j < H → ∃ vj, vs[j]? = some vj ∧ Fresh h.n h1 vj (rowR H xs j E)) ∧ Fresh h.n h1 g (xs.drop (H * E))

structure InvX (h0 : AH) (v : AV) (H E : Nat) (xs : List Int) (n : Nat) (tm : List AV) (h : AH) : Prop where
  len : tm.length = 63
  t0 : tm.getD 0 AV.undef = v
  t1 : tm.getD 1 AV.undef = .int .i64 (H : Int)
  t2 : tm.getD 2 AV.undef = .int .i64 (E : Int)
  ext : Ext h0 h
  st : ∃ (i : Nat) (own : Nat → Nat) (vs : List AV), n = H - i ∧ i ≤ H ∧ tm.getD 10 AV.undef = .int .i64 (i : Int) ∧ (∀ b, b < h0.n → own b = H + 1) ∧ FrC h0.n h own H (tm.getD 9 AV.undef) vs ∧ vs.length = i ∧
    ∀ j, j < i → ∃ vj, vs[j]? = some vj ∧ Fr h0.n h own j vj (rowR H xs j E)

structure InvY (h0 : AH) (v : AV) (H E : Nat) (xs : List Int) (i : Nat) (w : AV) (vs : List AV) (n : Nat) (tm : List AV) (h : AH) : Prop where
  len : tm.length = 63
  t0 : tm.getD 0 AV.undef = v
  t1 : tm.getD 1 AV.undef = .int .i64 (H : Int)
  t2 : tm.getD 2 AV.undef = .int .i64 (E : Int)
  t9 : tm.getD 9 AV.undef = w
  t10 : tm.getD 10 AV.undef = .int .i64 (i : Int)
  ext : Ext h0 h
  st : ∃ (k : Nat) (own : Nat → Nat), n = E - k ∧ k ≤ E ∧ tm.getD 12 AV.undef = .int .i64 (k : Int) ∧ (∀ b, b < h0.n → own b = H + 1) ∧ FrC h0.n h own H w vs ∧ (∀ j, j < i → ∃ vj, vs[j]? = some vj ∧ Fr h0.n h own j vj (rowR H xs j E)) ∧
    Fr h0.n h own i (tm.getD 11 AV.undef) (rowR H xs i k)

theorem Fr.oneV {N : Nat} {h : AH} {own : Nat → Nat} {c : Nat} {v : AV} {xs : List Int} (hf : Fr N h own c v xs) : v.one = true := by
  rcases hf with ⟨_, rfl⟩ | ⟨_, b, _, _, _, rfl, _⟩ <;> rfl

set_option maxRecDepth 100000 in
set_option maxHeartbeats 16000000 in
theorem refdeal_ok (ho : orc 46 = none) (ho2 : orc 64 = none) {h : AH} {v : AV} {xs : List Int} (hr : IntRow h v xs) (hl : xs.length * 8 ≤ 140737488355328) {H E : Nat} (hH : 0 < H) (hH2 : H ≤ 64) (hE : E ≤ xs.length / H) :
    ∃ v1 h1, acall orc T 46 [v, .int .i64 (H : Int), .int .i64 (E : Int)] h = some (v1, h1) ∧ RDealR h H E xs v1 h1 := by
  refine acall_facts (R := RDealR h H E xs) ho tbl46 ?_
  have hlen := hr.len
  have hN : H * E ≤ xs.length := Nat.le_trans (Nat.mul_le_mul_left H hE) (Nat.mul_div_le _ _)
  have l1 : decide ((H : Int) < 1) = false := by simp; omega
  have l2 : decide ((64 : Int) < (H : Int)) = false := by simp; omega
  have l3 : decide ((E : Int) < 0) = false := by simp
  have n0 : ((H : Int) = 0) = False := by simp; omega
  have ht : (xs.length : Int).tdiv (H : Int) = ((xs.length / H : Nat) : Int) := by rw [Int.tdiv_eq_ediv_of_nonneg (by omega)]; rfl
  have hdl : xs.length / H ≤ xs.length := Nat.div_le_self _ _
  have w1 : IntKind.wrap .i64 ((xs.length / H : Nat) : Int) = ((xs.length / H : Nat) : Int) := wrap_i64 (by omega) (by omega)
  have l4 : decide (((xs.length / H : Nat) : Int) < (E : Int)) = false := by rw [decide_eq_false_iff_not]; omega
  have hHE : H * E ≤ xs.length := hN
  have w2 : IntKind.wrap .i64 ((H : Int) * (E : Int)) = ((H * E : Nat) : Int) := by
    rw [← Int.natCast_mul, wrap_i64 (by omega) (by omega)]
  obtain ⟨v61, s2, hr61⟩ := slc_lo hr hN
  have hEl : E ≤ xs.length := Nat.le_trans hE hdl
  dsimp only [List.length, List.replicate, List.append, List.cons_append, List.nil_append, Nat.reduceAdd, Nat.reduceSub]
  repeat' first | (simp only [op_lenS, lenSV_str, op_lenV, lenV_slice, op_toInt, toIntV_int, op_iaddrS, RetK_inv, RetK_inv_exit, RetK_inv_ret, Nat.add_assoc, Nat.reduceEqDiff, Nat.reduceBEq, Nat.reduceBNe, Nat.le_min, Nat.le_add_right, Nat.min_self, Int.reduceBEq, Int.reduceBNe, Int.reduceLT, Int.reduceLE, Int.reduceEq, beq_self_eq_true, bne_self_eq_false, Bool.not_true, Bool.not_false, decide_true, decide_false, decide_eq_true_eq, Bool.and_eq_true, List.mapM_cons, List.mapM_nil, Option.bind_eq_bind, Option.pure_def, aeqK_agg, aeqK_scal, leavesK_nil, leavesK_cons, leafK_i, leafK_b, leafK_s, DrawK_nil, DrawK_cons, DrawK_guard, DResK_some, DGuardK_tt, DGuardK_ff, DGuardK_tf, DGuardK_ft, DGuardK_u, kept_load, Kept, KeptOne, closeOp, CO.quiet, CO.reads, CodeK_seq, CodeK_region, CodeK_skip, CodeK_ret, CodeK_exit, CodeK_cond, CodeK_block, CondK_true, CondK_false, RunK_cons, RunK_nil, RunK_guard, GuardK_tt, GuardK_ff, GuardK_tf, GuardK_ft, GuardK_u, ResK_some, RetK_nil, RetK_seq, RetK_seq_exit, RetK_seq_ret, RetK_block, RetK_block_ret, RetK_block_exit, RetK_block_exit_ne, op_mv, op_un, op_bin, op_load, loadV_ptr, op_faddr, faddrV_ptr, op_pick, pickV_true, pickV_false, pickV_bool, pickV_same, op_box, boxV_agg, op_call, op_build, op_ext, op_alloc, op_store, storeV_ptr, List.all_cons, List.all_nil, AV.one, AV.cells, Bool.and_self, Bool.and_true, Bool.true_and, put, CA.ev, List.set_cons_zero, List.set_cons_succ, List.getD_cons_zero, List.getD_cons_succ, abin, aint, aun, isShift, Option.map_some, Option.bind_some, List.map_cons, List.map_nil, Hp.n_withLow, Hp.n_push, Hp.n_set, Hp.low_withLow, Hp.low_push, Hp.low_set, Hp.get_push, Hp.get_set, Hp.get_withLow, readVar, readCell, readCells, writeCells, cut, fillA, Bool.false_eq_true, if_false, if_true, reduceIte, List.getElem?_cons_zero, List.getElem?_cons_succ, Nat.zero_add, Nat.add_zero, Nat.reduceAdd, Nat.reduceSub, Nat.reduceLT, Nat.reduceLeDiff, Nat.reduceEqDiff, List.length_cons, List.length_nil, List.take_succ_cons, List.take_zero, List.drop_zero, List.drop_succ_cons, List.cons_append, List.nil_append, List.append_nil, DoneK, resAll, resOne, AV.under, AV.unders, and_true, true_and, and_self, or_true, true_or, cond_true, cond_false, Nat.le_refl, Nat.add_eq_left, Nat.left_eq_add, Nat.add_right_cancel_iff, Nat.add_left_cancel_iff, hlen, l1, l2, l3, l4, w1, n0, ht, *]) | (refine GuardK_split (fun hb => ?_) (fun hb => ?_)) | (refine CondK_split (fun hb => ?_) (fun hb => ?_)) | (refine CodeK_regionD _ ?_) | (refine DGuardK_split (fun hb => ?_) (fun hb => ?_))
  refine CodeK_loop (InvX h v H E xs) H ?_ ?_
  · exact ⟨rfl, rfl, rfl, rfl, Ext.low _ _, 0, fun _ => H + 1, [], by omega, by omega, rfl, fun b _ => rfl, .inl ⟨rfl, rfl⟩, rfl, fun j hj => by omega⟩
  intro n tm h' I
  obtain ⟨i, own, vs, hn, hi, e10, hoN, hout, hvl, hrow⟩ := I.st
  have el := I.len
  have e0 := I.t0
  have e1 := I.t1
  have e2 := I.t2
  have hext := I.ext
  generalize e9 : tm.getD 9 AV.undef = w at hout
  by_cases hlt : i < H
  case neg =>
    obtain rfl : i = H := by omega
    have m1 : decide ((i : Int) < (i : Int)) = false := by simp
    repeat' first | (simp only [op_lenS, lenSV_str, op_lenV, lenV_slice, op_toInt, toIntV_int, op_iaddrS, RetK_inv, RetK_inv_exit, RetK_inv_ret, Nat.add_assoc, Nat.reduceEqDiff, Nat.reduceBEq, Nat.reduceBNe, Nat.le_min, Nat.le_add_right, Nat.min_self, Int.reduceBEq, Int.reduceBNe, Int.reduceLT, Int.reduceLE, Int.reduceEq, beq_self_eq_true, bne_self_eq_false, Bool.not_true, Bool.not_false, decide_true, decide_false, decide_eq_true_eq, Bool.and_eq_true, List.mapM_cons, List.mapM_nil, Option.bind_eq_bind, Option.pure_def, aeqK_agg, aeqK_scal, leavesK_nil, leavesK_cons, leafK_i, leafK_b, leafK_s, DrawK_nil, DrawK_cons, DrawK_guard, DResK_some, DGuardK_tt, DGuardK_ff, DGuardK_tf, DGuardK_ft, DGuardK_u, kept_load, Kept, KeptOne, closeOp, CO.quiet, CO.reads, CodeK_seq, CodeK_region, CodeK_skip, CodeK_ret, CodeK_exit, CodeK_cond, CodeK_block, CondK_true, CondK_false, RunK_cons, RunK_nil, RunK_guard, GuardK_tt, GuardK_ff, GuardK_tf, GuardK_ft, GuardK_u, ResK_some, RetK_nil, RetK_seq, RetK_seq_exit, RetK_seq_ret, RetK_block, RetK_block_ret, RetK_block_exit, RetK_block_exit_ne, op_mv, op_un, op_bin, op_load, loadV_ptr, op_faddr, faddrV_ptr, op_pick, pickV_true, pickV_false, pickV_bool, pickV_same, op_box, boxV_agg, op_call, op_build, op_ext, op_alloc, op_store, storeV_ptr, List.all_cons, List.all_nil, AV.one, AV.cells, Bool.and_self, Bool.and_true, Bool.true_and, put, CA.ev, List.set_cons_zero, List.set_cons_succ, List.getD_cons_zero, List.getD_cons_succ, abin, aint, aun, isShift, Option.map_some, Option.bind_some, List.map_cons, List.map_nil, Hp.n_withLow, Hp.n_push, Hp.n_set, Hp.low_withLow, Hp.low_push, Hp.low_set, Hp.get_push, Hp.get_set, Hp.get_withLow, readVar, readCell, readCells, writeCells, cut, fillA, Bool.false_eq_true, if_false, if_true, reduceIte, List.getElem?_cons_zero, List.getElem?_cons_succ, Nat.zero_add, Nat.add_zero, Nat.reduceAdd, Nat.reduceSub, Nat.reduceLT, Nat.reduceLeDiff, Nat.reduceEqDiff, List.length_cons, List.length_nil, List.take_succ_cons, List.take_zero, List.drop_zero, List.drop_succ_cons, List.cons_append, List.nil_append, List.append_nil, DoneK, resAll, resOne, AV.under, AV.unders, and_true, true_and, and_self, or_true, true_or, cond_true, cond_false, Nat.le_refl, Nat.add_eq_left, Nat.left_eq_add, Nat.add_right_cancel_iff, Nat.add_left_cancel_iff, el, e0, e1, e2, e9, e10, m1, w2, op_slcV, s2, tmset_self, tmset_ne, List.length_set, Nat.reduceBEq, Nat.reduceLT, *]) | (refine GuardK_split (fun hb => ?_) (fun hb => ?_)) | (refine CondK_split (fun hb => ?_) (fun hb => ?_)) | (refine CodeK_regionD _ ?_) | (refine DGuardK_split (fun hb => ?_) (fun hb => ?_))
    refine ResK_ex (copied_spec ho2 (hr61.ext hext) (by rw [List.length_drop]; omega)) fun v2 h2 hL => ?_
    obtain ⟨hf, he⟩ := hL
    have he' := hext.trans he
    have hhn := hext.1
    have hhn2 := he.1
    repeat' first | (simp only [op_lenS, lenSV_str, op_lenV, lenV_slice, op_toInt, toIntV_int, op_iaddrS, RetK_inv, RetK_inv_exit, RetK_inv_ret, Nat.add_assoc, Nat.reduceEqDiff, Nat.reduceBEq, Nat.reduceBNe, Nat.le_min, Nat.le_add_right, Nat.min_self, Int.reduceBEq, Int.reduceBNe, Int.reduceLT, Int.reduceLE, Int.reduceEq, beq_self_eq_true, bne_self_eq_false, Bool.not_true, Bool.not_false, decide_true, decide_false, decide_eq_true_eq, Bool.and_eq_true, List.mapM_cons, List.mapM_nil, Option.bind_eq_bind, Option.pure_def, aeqK_agg, aeqK_scal, leavesK_nil, leavesK_cons, leafK_i, leafK_b, leafK_s, DrawK_nil, DrawK_cons, DrawK_guard, DResK_some, DGuardK_tt, DGuardK_ff, DGuardK_tf, DGuardK_ft, DGuardK_u, kept_load, Kept, KeptOne, closeOp, CO.quiet, CO.reads, CodeK_seq, CodeK_region, CodeK_skip, CodeK_ret, CodeK_exit, CodeK_cond, CodeK_block, CondK_true, CondK_false, RunK_cons, RunK_nil, RunK_guard, GuardK_tt, GuardK_ff, GuardK_tf, GuardK_ft, GuardK_u, ResK_some, RetK_nil, RetK_seq, RetK_seq_exit, RetK_seq_ret, RetK_block, RetK_block_ret, RetK_block_exit, RetK_block_exit_ne, op_mv, op_un, op_bin, op_load, loadV_ptr, op_faddr, faddrV_ptr, op_pick, pickV_true, pickV_false, pickV_bool, pickV_same, op_box, boxV_agg, op_call, op_build, op_ext, op_alloc, op_store, storeV_ptr, List.all_cons, List.all_nil, AV.one, AV.cells, Bool.and_self, Bool.and_true, Bool.true_and, put, CA.ev, List.set_cons_zero, List.set_cons_succ, List.getD_cons_zero, List.getD_cons_succ, abin, aint, aun, isShift, Option.map_some, Option.bind_some, List.map_cons, List.map_nil, Hp.n_withLow, Hp.n_push, Hp.n_set, Hp.low_withLow, Hp.low_push, Hp.low_set, Hp.get_push, Hp.get_set, Hp.get_withLow, readVar, readCell, readCells, writeCells, cut, fillA, Bool.false_eq_true, if_false, if_true, reduceIte, List.getElem?_cons_zero, List.getElem?_cons_succ, Nat.zero_add, Nat.add_zero, Nat.reduceAdd, Nat.reduceSub, Nat.reduceLT, Nat.reduceLeDiff, Nat.reduceEqDiff, List.length_cons, List.length_nil, List.take_succ_cons, List.take_zero, List.drop_zero, List.drop_succ_cons, List.cons_append, List.nil_append, List.append_nil, DoneK, resAll, resOne, AV.under, AV.unders, and_true, true_and, and_self, or_true, true_or, cond_true, cond_false, Nat.le_refl, Nat.add_eq_left, Nat.left_eq_add, Nat.add_right_cancel_iff, Nat.add_left_cancel_iff, el, e0, e1, e2, e9, e10, Option.some.injEq, tmset_self, tmset_ne, List.length_set, Nat.reduceBEq, Nat.reduceLT, *]) | (refine GuardK_split (fun hb => ?_) (fun hb => ?_)) | (refine CondK_split (fun hb => ?_) (fun hb => ?_)) | (refine CodeK_regionD _ ?_) | (refine DGuardK_split (fun hb => ?_) (fun hb => ?_))
    refine ⟨_, rfl, ?_⟩
    have hvs : vs ≠ [] := fun e => by rw [e] at hvl; simp at hvl; omega
    rcases hout with ⟨q1, _⟩ | ⟨q1, b, q2, q3, _, rfl, q5⟩
    · exact absurd q1 hvs
    rw [settle_new (by simp [AV.under, AV.unders]; omega)]
    refine ⟨_, v2, vs, rfl, he'.trans (Ext.low _ _), .inr ⟨q1, b, q2, by simp; omega, rfl, by simp only [Hp.get_withLow]; rw [he.2 b q3, q5]⟩, hvl, fun j hj => ?_, (hf.le hhn).ext (Ext.low _ _)⟩
    obtain ⟨vj, k1, k2⟩ := hrow j hj
    exact ⟨vj, k1, (k2.fresh.ext he).ext (Ext.low _ _)⟩
  case pos =>
    have m1 : decide ((i : Int) < (H : Int)) = true := by simp; omega
    repeat' first | (simp only [op_lenS, lenSV_str, op_lenV, lenV_slice, op_toInt, toIntV_int, op_iaddrS, RetK_inv, RetK_inv_exit, RetK_inv_ret, Nat.add_assoc, Nat.reduceEqDiff, Nat.reduceBEq, Nat.reduceBNe, Nat.le_min, Nat.le_add_right, Nat.min_self, Int.reduceBEq, Int.reduceBNe, Int.reduceLT, Int.reduceLE, Int.reduceEq, beq_self_eq_true, bne_self_eq_false, Bool.not_true, Bool.not_false, decide_true, decide_false, decide_eq_true_eq, Bool.and_eq_true, List.mapM_cons, List.mapM_nil, Option.bind_eq_bind, Option.pure_def, aeqK_agg, aeqK_scal, leavesK_nil, leavesK_cons, leafK_i, leafK_b, leafK_s, DrawK_nil, DrawK_cons, DrawK_guard, DResK_some, DGuardK_tt, DGuardK_ff, DGuardK_tf, DGuardK_ft, DGuardK_u, kept_load, Kept, KeptOne, closeOp, CO.quiet, CO.reads, CodeK_seq, CodeK_region, CodeK_skip, CodeK_ret, CodeK_exit, CodeK_cond, CodeK_block, CondK_true, CondK_false, RunK_cons, RunK_nil, RunK_guard, GuardK_tt, GuardK_ff, GuardK_tf, GuardK_ft, GuardK_u, ResK_some, RetK_nil, RetK_seq, RetK_seq_exit, RetK_seq_ret, RetK_block, RetK_block_ret, RetK_block_exit, RetK_block_exit_ne, op_mv, op_un, op_bin, op_load, loadV_ptr, op_faddr, faddrV_ptr, op_pick, pickV_true, pickV_false, pickV_bool, pickV_same, op_box, boxV_agg, op_call, op_build, op_ext, op_alloc, op_store, storeV_ptr, List.all_cons, List.all_nil, AV.one, AV.cells, Bool.and_self, Bool.and_true, Bool.true_and, put, CA.ev, List.set_cons_zero, List.set_cons_succ, List.getD_cons_zero, List.getD_cons_succ, abin, aint, aun, isShift, Option.map_some, Option.bind_some, List.map_cons, List.map_nil, Hp.n_withLow, Hp.n_push, Hp.n_set, Hp.low_withLow, Hp.low_push, Hp.low_set, Hp.get_push, Hp.get_set, Hp.get_withLow, readVar, readCell, readCells, writeCells, cut, fillA, Bool.false_eq_true, if_false, if_true, reduceIte, List.getElem?_cons_zero, List.getElem?_cons_succ, Nat.zero_add, Nat.add_zero, Nat.reduceAdd, Nat.reduceSub, Nat.reduceLT, Nat.reduceLeDiff, Nat.reduceEqDiff, List.length_cons, List.length_nil, List.take_succ_cons, List.take_zero, List.drop_zero, List.drop_succ_cons, List.cons_append, List.nil_append, List.append_nil, DoneK, resAll, resOne, AV.under, AV.unders, and_true, true_and, and_self, or_true, true_or, cond_true, cond_false, Nat.le_refl, Nat.add_eq_left, Nat.left_eq_add, Nat.add_right_cancel_iff, Nat.add_left_cancel_iff, el, e0, e1, e2, e9, e10, m1, tmset_self, tmset_ne, List.length_set, Nat.reduceBEq, Nat.reduceLT, *]) | (refine GuardK_split (fun hb => ?_) (fun hb => ?_)) | (refine CondK_split (fun hb => ?_) (fun hb => ?_)) | (refine CodeK_regionD _ ?_) | (refine DGuardK_split (fun hb => ?_) (fun hb => ?_))
    refine CodeK_loop (InvY h v H E xs i w vs) E ?_ ?_
    · exact ⟨by simp only [List.length_set, el], by simp only [tmset_self, tmset_ne, List.length_set, Nat.reduceBEq, Nat.reduceLT, el, e0], by simp only [tmset_self, tmset_ne, List.length_set, Nat.reduceBEq, Nat.reduceLT, el, e1], by simp only [tmset_self, tmset_ne, List.length_set, Nat.reduceBEq, Nat.reduceLT, el, e2], by simp only [tmset_self, tmset_ne, List.length_set, Nat.reduceBEq, Nat.reduceLT, el, e9], by simp only [tmset_self, tmset_ne, List.length_set, Nat.reduceBEq, Nat.reduceLT, el, e10], hext, 0, own, by omega, by omega, by simp only [tmset_self, tmset_ne, List.length_set, Nat.reduceBEq, Nat.reduceLT, el]; rfl, hoN, hout, hrow, .inl ⟨rfl, by simp only [tmset_self, tmset_ne, List.length_set, Nat.reduceBEq, Nat.reduceLT, el]⟩⟩
    clear el e0 e1 e2 e9 e10 hext hout hrow hoN I
    intro n2 tm h' I
    obtain ⟨k, own, hn2, hk, e12, hoN, hout, hrow, hhand⟩ := I.st
    have el := I.len
    have e0 := I.t0
    have e1 := I.t1
    have e2 := I.t2
    have e9 := I.t9
    have e10 := I.t10
    have hext := I.ext
    generalize e11 : tm.getD 11 AV.undef = hd at hhand
    have o3 : ∀ a y : AV, Fs.over [a] 0 [y] = [y] := fun _ _ => rfl
    have r1 : ∀ a : AV, Fs.reps [a] 1 = [a] := fun _ => rfl
    have hhn := hext.1
    by_cases hltk : k < E
    case pos =>
      have m2 : decide ((k : Int) < (E : Int)) = true := by simp; omega
      have hkH : k * H + H ≤ E * H := by
        have := Nat.mul_le_mul_right H (show k + 1 ≤ E by omega)
        rwa [Nat.add_mul, Nat.one_mul] at this
      have hEH : E * H = H * E := Nat.mul_comm E H
      have hidx : i + k * H < xs.length := by omega
      have w3 : IntKind.wrap .i64 ((k : Int) * (H : Int)) = ((k * H : Nat) : Int) := by rw [← Int.natCast_mul, wrap_i64 (by omega) (by omega)]
      have w4 : IntKind.wrap .i64 ((i : Int) + ((k * H : Nat) : Int)) = ((i + k * H : Nat) : Int) := by rw [wrap_i64 (by omega) (by omega)]; omega
      have w5 : IntKind.wrap .i64 ((k : Int) + 1) = ((k + 1 : Nat) : Int) := by rw [wrap_i64 (by omega) (by omega)]; omega
      have hx := List.getElem?_eq_getElem hidx
      have hgd : xs.getD (i + k * H) 0 = xs[i + k * H]'hidx := by simp [List.getD_eq_getElem?_getD, hx]
      have hrl := rowR_length H xs i k
      have hrs : rowR H xs i (k + 1) = rowR H xs i k ++ [xs[i + k * H]'hidx] := by simp only [rowR, hgd]
      generalize xs[i + k * H]'hidx = x at hx hrs
      obtain ⟨b, o, cells, ro, ha, g1, g2, g3⟩ := (hr.ext hext).at hx
      generalize hik : i + k * H = ik at *
      generalize hkk : k * H = kH at *
      repeat' first | (simp only [op_lenS, lenSV_str, op_lenV, lenV_slice, op_toInt, toIntV_int, op_iaddrS, RetK_inv, RetK_inv_exit, RetK_inv_ret, Nat.add_assoc, Nat.reduceEqDiff, Nat.reduceBEq, Nat.reduceBNe, Nat.le_min, Nat.le_add_right, Nat.min_self, Int.reduceBEq, Int.reduceBNe, Int.reduceLT, Int.reduceLE, Int.reduceEq, beq_self_eq_true, bne_self_eq_false, Bool.not_true, Bool.not_false, decide_true, decide_false, decide_eq_true_eq, Bool.and_eq_true, List.mapM_cons, List.mapM_nil, Option.bind_eq_bind, Option.pure_def, aeqK_agg, aeqK_scal, leavesK_nil, leavesK_cons, leafK_i, leafK_b, leafK_s, DrawK_nil, DrawK_cons, DrawK_guard, DResK_some, DGuardK_tt, DGuardK_ff, DGuardK_tf, DGuardK_ft, DGuardK_u, kept_load, Kept, KeptOne, closeOp, CO.quiet, CO.reads, CodeK_seq, CodeK_region, CodeK_skip, CodeK_ret, CodeK_exit, CodeK_cond, CodeK_block, CondK_true, CondK_false, RunK_cons, RunK_nil, RunK_guard, GuardK_tt, GuardK_ff, GuardK_tf, GuardK_ft, GuardK_u, ResK_some, RetK_nil, RetK_seq, RetK_seq_exit, RetK_seq_ret, RetK_block, RetK_block_ret, RetK_block_exit, RetK_block_exit_ne, op_mv, op_un, op_bin, op_load, loadV_ptr, op_faddr, faddrV_ptr, op_pick, pickV_true, pickV_false, pickV_bool, pickV_same, op_box, boxV_agg, op_call, op_build, op_ext, op_alloc, op_store, storeV_ptr, List.all_cons, List.all_nil, AV.one, AV.cells, Bool.and_self, Bool.and_true, Bool.true_and, put, CA.ev, List.set_cons_zero, List.set_cons_succ, List.getD_cons_zero, List.getD_cons_succ, abin, aint, aun, isShift, Option.map_some, Option.bind_some, List.map_cons, List.map_nil, Hp.n_withLow, Hp.n_push, Hp.n_set, Hp.low_withLow, Hp.low_push, Hp.low_set, Hp.get_push, Hp.get_set, Hp.get_withLow, readVar, readCell, readCells, writeCells, cut, fillA, Bool.false_eq_true, if_false, if_true, reduceIte, List.getElem?_cons_zero, List.getElem?_cons_succ, Nat.zero_add, Nat.add_zero, Nat.reduceAdd, Nat.reduceSub, Nat.reduceLT, Nat.reduceLeDiff, Nat.reduceEqDiff, List.length_cons, List.length_nil, List.take_succ_cons, List.take_zero, List.drop_zero, List.drop_succ_cons, List.cons_append, List.nil_append, List.append_nil, DoneK, resAll, resOne, AV.under, AV.unders, and_true, true_and, and_self, or_true, true_or, cond_true, cond_false, Nat.le_refl, Nat.add_eq_left, Nat.left_eq_add, Nat.add_right_cancel_iff, Nat.add_left_cancel_iff, el, e0, e1, e2, e9, e10, e11, e12, m2, w3, w4, ha, g1, g2, op_litS, fillA, o3, r1, op_append, tmset_self, tmset_ne, List.length_set, Nat.reduceBEq, Nat.reduceLT, *]) | (refine GuardK_split (fun hb => ?_) (fun hb => ?_)) | (refine CondK_split (fun hb => ?_) (fun hb => ?_)) | (refine CodeK_regionD _ ?_) | (refine DGuardK_split (fun hb => ?_) (fun hb => ?_))
      refine ResK_ex (app_fr (N := h.n) (own := fun b => if b = h'.n then H + 1 else own b) (c := i) (ys := [x]) (hhand.mono (by simp) (fun b hb hc => ?_) fun b hb _ => ?_) ⟨_, _, rfl, .inl ⟨1, rfl, by simp⟩, .inr ⟨h'.n, 0, [.int .i64 x], false, rfl, by simp, by simp, rfl⟩⟩ (by simp) (by rw [hrl]; simp; omega)) fun v2 h2 hL => ?_
      · have n1 : ¬ b = h'.n := by omega
        simp only [n1, if_false]; exact hc
      · exact Hp.get_push_ne _ _ _ (by omega)
      obtain ⟨rfl, r2, r3, r4⟩ := hL
      simp only [Hp.n_push] at r2 r3 r4
      have old2 : ∀ b, b < h'.n → own b ≠ i → h2.get b = h'.get b := fun b hb hc => by
        have n1 : ¬ b = h'.n := by omega
        rw [r4 b (by omega) (by simp only [n1, if_false]; exact hc), Hp.get_push_ne _ _ _ n1]
      simp only [Hp.n_push]
      have own' : ∀ b, b < h'.n → (if b = h'.n then H + 1 else if b = h'.n + 1 then i else own b) = own b := fun b hb => by rw [if_neg (by omega), if_neg (by omega)]
      repeat' first | (simp only [op_lenS, lenSV_str, op_lenV, lenV_slice, op_toInt, toIntV_int, op_iaddrS, RetK_inv, RetK_inv_exit, RetK_inv_ret, Nat.add_assoc, Nat.reduceEqDiff, Nat.reduceBEq, Nat.reduceBNe, Nat.le_min, Nat.le_add_right, Nat.min_self, Int.reduceBEq, Int.reduceBNe, Int.reduceLT, Int.reduceLE, Int.reduceEq, beq_self_eq_true, bne_self_eq_false, Bool.not_true, Bool.not_false, decide_true, decide_false, decide_eq_true_eq, Bool.and_eq_true, List.mapM_cons, List.mapM_nil, Option.bind_eq_bind, Option.pure_def, aeqK_agg, aeqK_scal, leavesK_nil, leavesK_cons, leafK_i, leafK_b, leafK_s, DrawK_nil, DrawK_cons, DrawK_guard, DResK_some, DGuardK_tt, DGuardK_ff, DGuardK_tf, DGuardK_ft, DGuardK_u, kept_load, Kept, KeptOne, closeOp, CO.quiet, CO.reads, CodeK_seq, CodeK_region, CodeK_skip, CodeK_ret, CodeK_exit, CodeK_cond, CodeK_block, CondK_true, CondK_false, RunK_cons, RunK_nil, RunK_guard, GuardK_tt, GuardK_ff, GuardK_tf, GuardK_ft, GuardK_u, ResK_some, RetK_nil, RetK_seq, RetK_seq_exit, RetK_seq_ret, RetK_block, RetK_block_ret, RetK_block_exit, RetK_block_exit_ne, op_mv, op_un, op_bin, op_load, loadV_ptr, op_faddr, faddrV_ptr, op_pick, pickV_true, pickV_false, pickV_bool, pickV_same, op_box, boxV_agg, op_call, op_build, op_ext, op_alloc, op_store, storeV_ptr, List.all_cons, List.all_nil, AV.one, AV.cells, Bool.and_self, Bool.and_true, Bool.true_and, put, CA.ev, List.set_cons_zero, List.set_cons_succ, List.getD_cons_zero, List.getD_cons_succ, abin, aint, aun, isShift, Option.map_some, Option.bind_some, List.map_cons, List.map_nil, Hp.n_withLow, Hp.n_push, Hp.n_set, Hp.low_withLow, Hp.low_push, Hp.low_set, Hp.get_push, Hp.get_set, Hp.get_withLow, readVar, readCell, readCells, writeCells, cut, fillA, Bool.false_eq_true, if_false, if_true, reduceIte, List.getElem?_cons_zero, List.getElem?_cons_succ, Nat.zero_add, Nat.add_zero, Nat.reduceAdd, Nat.reduceSub, Nat.reduceLT, Nat.reduceLeDiff, Nat.reduceEqDiff, List.length_cons, List.length_nil, List.take_succ_cons, List.take_zero, List.drop_zero, List.drop_succ_cons, List.cons_append, List.nil_append, List.append_nil, DoneK, resAll, resOne, AV.under, AV.unders, and_true, true_and, and_self, or_true, true_or, cond_true, cond_false, Nat.le_refl, Nat.add_eq_left, Nat.left_eq_add, Nat.add_right_cancel_iff, Nat.add_left_cancel_iff, el, e0, e1, e2, e9, e10, e11, e12, w5, tmset_self, tmset_ne, List.length_set, Nat.reduceBEq, Nat.reduceLT, *]) | (refine GuardK_split (fun hb => ?_) (fun hb => ?_)) | (refine CondK_split (fun hb => ?_) (fun hb => ?_)) | (refine CodeK_regionD _ ?_) | (refine DGuardK_split (fun hb => ?_) (fun hb => ?_))
      refine ⟨E - (k + 1), by omega, by simp only [List.length_set, el], by simp only [tmset_self, tmset_ne, List.length_set, Nat.reduceBEq, Nat.reduceLT, el, e0], by simp only [tmset_self, tmset_ne, List.length_set, Nat.reduceBEq, Nat.reduceLT, el, e1], by simp only [tmset_self, tmset_ne, List.length_set, Nat.reduceBEq, Nat.reduceLT, el, e2], by simp only [tmset_self, tmset_ne, List.length_set, Nat.reduceBEq, Nat.reduceLT, el, e9], by simp only [tmset_self, tmset_ne, List.length_set, Nat.reduceBEq, Nat.reduceLT, el, e10], ⟨by omega, fun b hb => ?_⟩, k + 1, fun b => if b = h'.n then H + 1 else if b = h'.n + 1 then i else own b, rfl, by omega, by simp only [tmset_self, tmset_ne, List.length_set, Nat.reduceBEq, Nat.reduceLT, el], fun b hb => ?_, ?_, fun j hj => ?_, ?_⟩
      · rw [old2 b (by omega) (by rw [hoN b hb]; omega), hext.2 b hb]
      · show (if b = h'.n then H + 1 else if b = h'.n + 1 then i else own b) = _
        rw [own' b (by omega)]; exact hoN b hb
      · exact hout.mono (by omega) (fun b hb hc => (own' b hb).trans hc) fun b hb hc => old2 b hb (by omega)
      · obtain ⟨vj, q1, q2⟩ := hrow j hj
        exact ⟨vj, q1, q2.mono (by omega) (fun b hb hc => (own' b hb).trans hc) fun b hb hc => old2 b hb (by omega)⟩
      · simp only [tmset_self, tmset_ne, List.length_set, Nat.reduceBEq, Nat.reduceLT, el]
        rw [hrs]
        exact .inr ⟨by simp, h'.n + 1, by omega, by omega, (if_neg (by omega)).trans (if_pos rfl), rfl, r3⟩
    case neg =>
      obtain rfl : k = E := by omega
      have m2 : decide ((k : Int) < (k : Int)) = false := by simp
      have w5 : IntKind.wrap .i64 ((i : Int) + 1) = ((i + 1 : Nat) : Int) := by rw [wrap_i64 (by omega) (by omega)]; omega
      obtain ⟨aJ, cJ, rfl⟩ := hhand.one
      repeat' first | (simp only [op_lenS, lenSV_str, op_lenV, lenV_slice, op_toInt, toIntV_int, op_iaddrS, RetK_inv, RetK_inv_exit, RetK_inv_ret, Nat.add_assoc, Nat.reduceEqDiff, Nat.reduceBEq, Nat.reduceBNe, Nat.le_min, Nat.le_add_right, Nat.min_self, Int.reduceBEq, Int.reduceBNe, Int.reduceLT, Int.reduceLE, Int.reduceEq, beq_self_eq_true, bne_self_eq_false, Bool.not_true, Bool.not_false, decide_true, decide_false, decide_eq_true_eq, Bool.and_eq_true, List.mapM_cons, List.mapM_nil, Option.bind_eq_bind, Option.pure_def, aeqK_agg, aeqK_scal, leavesK_nil, leavesK_cons, leafK_i, leafK_b, leafK_s, DrawK_nil, DrawK_cons, DrawK_guard, DResK_some, DGuardK_tt, DGuardK_ff, DGuardK_tf, DGuardK_ft, DGuardK_u, kept_load, Kept, KeptOne, closeOp, CO.quiet, CO.reads, CodeK_seq, CodeK_region, CodeK_skip, CodeK_ret, CodeK_exit, CodeK_cond, CodeK_block, CondK_true, CondK_false, RunK_cons, RunK_nil, RunK_guard, GuardK_tt, GuardK_ff, GuardK_tf, GuardK_ft, GuardK_u, ResK_some, RetK_nil, RetK_seq, RetK_seq_exit, RetK_seq_ret, RetK_block, RetK_block_ret, RetK_block_exit, RetK_block_exit_ne, op_mv, op_un, op_bin, op_load, loadV_ptr, op_faddr, faddrV_ptr, op_pick, pickV_true, pickV_false, pickV_bool, pickV_same, op_box, boxV_agg, op_call, op_build, op_ext, op_alloc, op_store, storeV_ptr, List.all_cons, List.all_nil, AV.one, AV.cells, Bool.and_self, Bool.and_true, Bool.true_and, put, CA.ev, List.set_cons_zero, List.set_cons_succ, List.getD_cons_zero, List.getD_cons_succ, abin, aint, aun, isShift, Option.map_some, Option.bind_some, List.map_cons, List.map_nil, Hp.n_withLow, Hp.n_push, Hp.n_set, Hp.low_withLow, Hp.low_push, Hp.low_set, Hp.get_push, Hp.get_set, Hp.get_withLow, readVar, readCell, readCells, writeCells, cut, fillA, Bool.false_eq_true, if_false, if_true, reduceIte, List.getElem?_cons_zero, List.getElem?_cons_succ, Nat.zero_add, Nat.add_zero, Nat.reduceAdd, Nat.reduceSub, Nat.reduceLT, Nat.reduceLeDiff, Nat.reduceEqDiff, List.length_cons, List.length_nil, List.take_succ_cons, List.take_zero, List.drop_zero, List.drop_succ_cons, List.cons_append, List.nil_append, List.append_nil, DoneK, resAll, resOne, AV.under, AV.unders, and_true, true_and, and_self, or_true, true_or, cond_true, cond_false, Nat.le_refl, Nat.add_eq_left, Nat.left_eq_add, Nat.add_right_cancel_iff, Nat.add_left_cancel_iff, el, e0, e1, e2, e9, e10, e11, e12, m2, op_litS, fillA, o3, r1, op_append, tmset_self, tmset_ne, List.length_set, Nat.reduceBEq, Nat.reduceLT, *]) | (refine GuardK_split (fun hb => ?_) (fun hb => ?_)) | (refine CondK_split (fun hb => ?_) (fun hb => ?_)) | (refine CodeK_regionD _ ?_) | (refine DGuardK_split (fun hb => ?_) (fun hb => ?_))
      refine ResK_ex (app_frc (N := h.n) (own := fun b => if b = h'.n then H + 1 else own b) (c := H) (R := vs) (hout.mono (by simp) (fun b hb hc => ?_) fun b hb _ => ?_) rfl (by omega) (by omega) (Hp.get_push_self _ _)) fun v2 h2 hL => ?_
      · have n1 : ¬ b = h'.n := by omega
        simp only [n1, if_false]; exact hc
      · exact Hp.get_push_ne _ _ _ (by omega)
      obtain ⟨rfl, r2, r3, r4⟩ := hL
      simp only [Hp.n_push] at r2 r3 r4
      have old2 : ∀ b, b < h'.n → own b ≠ H → h2.get b = h'.get b := fun b hb hc => by
        have n1 : ¬ b = h'.n := by omega
        rw [r4 b (by omega) (by simp only [n1, if_false]; exact hc), Hp.get_push_ne _ _ _ n1]
      simp only [Hp.n_push]
      have own' : ∀ b, b < h'.n → (if b = h'.n then H + 1 else if b = h'.n + 1 then H else own b) = own b := fun b hb => by rw [if_neg (by omega), if_neg (by omega)]
      repeat' first | (simp only [op_lenS, lenSV_str, op_lenV, lenV_slice, op_toInt, toIntV_int, op_iaddrS, RetK_inv, RetK_inv_exit, RetK_inv_ret, Nat.add_assoc, Nat.reduceEqDiff, Nat.reduceBEq, Nat.reduceBNe, Nat.le_min, Nat.le_add_right, Nat.min_self, Int.reduceBEq, Int.reduceBNe, Int.reduceLT, Int.reduceLE, Int.reduceEq, beq_self_eq_true, bne_self_eq_false, Bool.not_true, Bool.not_false, decide_true, decide_false, decide_eq_true_eq, Bool.and_eq_true, List.mapM_cons, List.mapM_nil, Option.bind_eq_bind, Option.pure_def, aeqK_agg, aeqK_scal, leavesK_nil, leavesK_cons, leafK_i, leafK_b, leafK_s, DrawK_nil, DrawK_cons, DrawK_guard, DResK_some, DGuardK_tt, DGuardK_ff, DGuardK_tf, DGuardK_ft, DGuardK_u, kept_load, Kept, KeptOne, closeOp, CO.quiet, CO.reads, CodeK_seq, CodeK_region, CodeK_skip, CodeK_ret, CodeK_exit, CodeK_cond, CodeK_block, CondK_true, CondK_false, RunK_cons, RunK_nil, RunK_guard, GuardK_tt, GuardK_ff, GuardK_tf, GuardK_ft, GuardK_u, ResK_some, RetK_nil, RetK_seq, RetK_seq_exit, RetK_seq_ret, RetK_block, RetK_block_ret, RetK_block_exit, RetK_block_exit_ne, op_mv, op_un, op_bin, op_load, loadV_ptr, op_faddr, faddrV_ptr, op_pick, pickV_true, pickV_false, pickV_bool, pickV_same, op_box, boxV_agg, op_call, op_build, op_ext, op_alloc, op_store, storeV_ptr, List.all_cons, List.all_nil, AV.one, AV.cells, Bool.and_self, Bool.and_true, Bool.true_and, put, CA.ev, List.set_cons_zero, List.set_cons_succ, List.getD_cons_zero, List.getD_cons_succ, abin, aint, aun, isShift, Option.map_some, Option.bind_some, List.map_cons, List.map_nil, Hp.n_withLow, Hp.n_push, Hp.n_set, Hp.low_withLow, Hp.low_push, Hp.low_set, Hp.get_push, Hp.get_set, Hp.get_withLow, readVar, readCell, readCells, writeCells, cut, fillA, Bool.false_eq_true, if_false, if_true, reduceIte, List.getElem?_cons_zero, List.getElem?_cons_succ, Nat.zero_add, Nat.add_zero, Nat.reduceAdd, Nat.reduceSub, Nat.reduceLT, Nat.reduceLeDiff, Nat.reduceEqDiff, List.length_cons, List.length_nil, List.take_succ_cons, List.take_zero, List.drop_zero, List.drop_succ_cons, List.cons_append, List.nil_append, List.append_nil, DoneK, resAll, resOne, AV.under, AV.unders, and_true, true_and, and_self, or_true, true_or, cond_true, cond_false, Nat.le_refl, Nat.add_eq_left, Nat.left_eq_add, Nat.add_right_cancel_iff, Nat.add_left_cancel_iff, el, e0, e1, e2, e9, e10, e11, e12, w5, tmset_self, tmset_ne, List.length_set, Nat.reduceBEq, Nat.reduceLT, *]) | (refine GuardK_split (fun hb => ?_) (fun hb => ?_)) | (refine CondK_split (fun hb => ?_) (fun hb => ?_)) | (refine CodeK_regionD _ ?_) | (refine DGuardK_split (fun hb => ?_) (fun hb => ?_))
      refine ⟨H - (i + 1), by omega, by simp only [List.length_set, el], by simp only [tmset_self, tmset_ne, List.length_set, Nat.reduceBEq, Nat.reduceLT, el, e0], by simp only [tmset_self, tmset_ne, List.length_set, Nat.reduceBEq, Nat.reduceLT, el, e1], by simp only [tmset_self, tmset_ne, List.length_set, Nat.reduceBEq, Nat.reduceLT, el, e2], ⟨by omega, fun b hb => ?_⟩, i + 1, fun b => if b = h'.n then H + 1 else if b = h'.n + 1 then H else own b, vs ++ [AV.slice aJ (rowR H xs i k).length cJ], rfl, by omega, by simp only [tmset_self, tmset_ne, List.length_set, Nat.reduceBEq, Nat.reduceLT, el], fun b hb => ?_, ?_, by simp [hvl], fun j hj => ?_⟩
      · rw [old2 b (by omega) (by rw [hoN b hb]; omega), hext.2 b hb]
      · show (if b = h'.n then H + 1 else if b = h'.n + 1 then H else own b) = _
        rw [own' b (by omega)]; exact hoN b hb
      · simp only [tmset_self, tmset_ne, List.length_set, Nat.reduceBEq, Nat.reduceLT, el]
        exact .inr ⟨by simp, h'.n + 1, by omega, by omega, (if_neg (by omega)).trans (if_pos rfl), rfl, r3⟩
      · by_cases hji : j < i
        · obtain ⟨vj, q1, q2⟩ := hrow j hji
          exact ⟨vj, by rw [List.getElem?_append_left (by omega)]; exact q1, q2.mono (by omega) (fun b hb hc => (own' b hb).trans hc) fun b hb hc => old2 b hb (by omega)⟩
        · obtain rfl : j = i := by omega
          exact ⟨_, by rw [List.getElem?_append_right (by omega), hvl]; simp, hhand.mono (by omega) (fun b hb hc => (own' b hb).trans hc) fun b hb hc => old2 b hb (by omega)⟩

/-! ### Whatever is asked -/
def dealB (hands each : Int) (xs : List Int) : Bool := decide (hands < 1 ∨ 64 < hands ∨ each < 0 ∨ (xs.length : Int).tdiv hands < each)
theorem dealB_bad {hands each : Int} {xs : List Int} (hb : dealB hands each xs = true) : hands < 1 ∨ 64 < hands ∨ each < 0 ∨ (xs.length : Int).tdiv hands < each := by simpa [dealB] using hb
theorem dealB_ok {hands each : Int} {xs : List Int} (hb : dealB hands each xs = false) : ∃ H E : Nat, hands = (H : Int) ∧ each = (E : Int) ∧ 0 < H ∧ H ≤ 64 ∧ E ≤ xs.length / H := by
  simp only [dealB, decide_eq_false_iff_not, not_or] at hb
  obtain ⟨h1, h2, h3, h4⟩ := hb
  refine ⟨hands.toNat, each.toNat, by omega, by omega, by omega, by omega, ?_⟩
  have e1 : hands = ((hands.toNat : Nat) : Int) := by omega
  rw [e1, Int.tdiv_eq_ediv_of_nonneg (by omega)] at h4
  have : (xs.length : Int) / ((hands.toNat : Nat) : Int) = ((xs.length / hands.toNat : Nat) : Int) := rfl
  rw [this] at h4
  omega

/-- A list of rows, of this length, each place of which reads. -/
structure Lst (N : Nat) (h : AH) (f : AV) (vs : List AV) : Prop where
  len : ∀ hx : AH, lenV f hx = some (.int .i64 (vs.length : Int), hx)
  get : ∀ (i : Nat) (x : AV), vs[i]? = some x → ∃ b cells ro, (∀ hy : AH, iaddrV 1 f (.int .i64 (i : Int)) hy = some (.ptr (some (b, i)), hy)) ∧ h.get b = some (.cells cells ro) ∧ cells[i]? = some x ∧ N ≤ b ∧ b < h.n

/-- What dealing hands back, the code's: hands of owners of their own; the reference's. -/
def DealP (h : AH) (hands each : Int) (xs : List Int) (v1 : AV) (h1 : AH) : Prop :=
  ∃ (f g : AV) (own : Nat → Nat) (vs : List AV) (rows : List (List Int)) (gl : List Int) (e : Int), v1 = .tuple [f, g, .int .i64 e] ∧ Ext h h1 ∧ Lst h.n h1 f vs ∧ vs.length = rows.length ∧ rows.length ≤ 64 ∧ (∀ (j : Nat) (xs' : List Int), rows[j]? = some xs' → ∃ vj, vs[j]? = some vj ∧ Fr h.n h1 own j vj xs' ∧ xs'.length ≤ xs.length) ∧ Fr h.n h1 own (rows.length + 1) g gl ∧ gl.length ≤ xs.length ∧
    (rows, gl, e) = (if dealB hands each xs then ([], [], 2) else ((List.range hands.toNat).map fun j => rowR hands.toNat xs j each.toNat, xs.drop (hands.toNat * each.toNat), 0))
def DealQ (h : AH) (hands each : Int) (xs : List Int) (v1 : AV) (h1 : AH) : Prop :=
  ∃ (f g : AV) (vs : List AV) (rows : List (List Int)) (gl : List Int) (e : Int), v1 = .tuple [f, g, .int .i64 e] ∧ Ext h h1 ∧ Lst h.n h1 f vs ∧ vs.length = rows.length ∧ (∀ (j : Nat) (xs' : List Int), rows[j]? = some xs' → ∃ vj, vs[j]? = some vj ∧ Fresh h.n h1 vj xs') ∧ Fresh h.n h1 g gl ∧
    (rows, gl, e) = (if dealB hands each xs then ([], [], 2) else ((List.range hands.toNat).map fun j => rowR hands.toNat xs j each.toNat, xs.drop (hands.toNat * each.toNat), 0))

theorem lst_nil (N : Nat) (h : AH) : Lst N h (.slice none 0 (.exact 0)) [] := ⟨fun _ => rfl, fun i x hx => by simp at hx⟩

theorem rowR_le {H E : Nat} {xs : List Int} (hH : 0 < H) (hE : E ≤ xs.length / H) (j : Nat) : (rowR H xs j E).length ≤ xs.length := by
  rw [rowR_length]; exact Nat.le_trans hE (Nat.div_le_self _ _)

theorem deal_any (ho : orc 42 = none) {h : AH} {v : AV} {xs : List Int} (hr : IntRow h v xs) (hl : xs.length * 8 ≤ 140737488355328) (hands each : Int) :
    ∃ v1 h1, acall orc T 42 [v, .int .i64 hands, .int .i64 each] h = some (v1, h1) ∧ DealP h hands each xs v1 h1 := by
  cases hb : dealB hands each xs with
  | true =>
    refine ⟨_, _, deal_bad ho hr (dealB_bad hb) (by omega), _, _, fun _ => 0, [], [], [], 2, rfl, Ext.refl _, lst_nil _ _, rfl, by simp, fun j xs' hx => by simp at hx, .inl ⟨rfl, rfl⟩, by simp, by rw [hb]; rfl⟩
  | false =>
    obtain ⟨H, E, rfl, rfl, h1, h2, h3⟩ := dealB_ok hb
    obtain ⟨v1, h1', e1, g, b0, own, vs, rfl, g2, g3, g4, g5, g6, g7, g8, g9⟩ := deal_ok2 ho hr hl h1 h2 h3
    have hrl : ((List.range H).map fun j => rowR H xs j E).length = H := by simp
    refine ⟨_, _, e1, _, _, own, vs, (List.range H).map fun j => rowR H xs j E, xs.drop (H * E), 0, rfl, g2, ⟨fun hx => by rw [← g7]; rfl, fun i x hx => ?_⟩, by rw [hrl, g7], by rw [hrl]; exact h2, fun j xs' hx => ?_, by rw [hrl]; exact g9, by rw [List.length_drop]; omega, by rw [hb]; simp⟩
    · have hlt := (List.getElem?_eq_some_iff.1 hx).1
      exact ⟨b0, vs, false, fun hy => by rw [iaddrV_nat (by omega), Nat.mul_one, Nat.zero_add], g6, hx, g3, g4⟩
    · rw [List.getElem?_map] at hx
      obtain ⟨j', hj', rfl⟩ := Option.map_eq_some_iff.1 hx
      have hlt := (List.getElem?_eq_some_iff.1 hj').1
      rw [List.length_range] at hlt
      rw [List.getElem?_range hlt] at hj'
      cases hj'
      obtain ⟨vj, q1, q2⟩ := g8 j hlt
      rw [dealt_row xs hlt] at q2
      exact ⟨vj, q1, q2, rowR_le h1 h3 j⟩

theorem refdeal_any (ho : orc 46 = none) (ho2 : orc 64 = none) {h : AH} {v : AV} {xs : List Int} (hr : IntRow h v xs) (hl : xs.length * 8 ≤ 140737488355328) (hands each : Int) :
    ∃ v1 h1, acall orc T 46 [v, .int .i64 hands, .int .i64 each] h = some (v1, h1) ∧ DealQ h hands each xs v1 h1 := by
  cases hb : dealB hands each xs with
  | true =>
    refine ⟨.tuple [.slice none 0 (.exact 0), .slice none 0 (.exact 0), .int .i64 2], h, ?_, _, _, [], [], [], 2, rfl, Ext.refl _, lst_nil _ _, rfl, fun j xs' hx => by simp at hx, .inl ⟨rfl, rfl⟩, by rw [hb]; rfl⟩
    have hbad := dealB_bad hb
    refine acall_sym ho tbl46 ?_
    have hlen := hr.len
    dsimp only [List.length, List.replicate, List.append, List.cons_append, List.nil_append, Nat.reduceAdd, Nat.reduceSub]
    by_cases h1 : hands < 1
    · have l1 : decide (hands < 1) = true := by simp [h1]
      repeat' first | (simp only [op_lenS, lenSV_str, op_lenV, lenV_slice, op_toInt, toIntV_int, op_iaddrS, RetK_inv, RetK_inv_exit, RetK_inv_ret, Nat.add_assoc, Nat.reduceEqDiff, Nat.reduceBEq, Nat.reduceBNe, Nat.le_min, Nat.le_add_right, Nat.min_self, Int.reduceBEq, Int.reduceBNe, Int.reduceLT, Int.reduceLE, Int.reduceEq, beq_self_eq_true, bne_self_eq_false, Bool.not_true, Bool.not_false, decide_true, decide_false, decide_eq_true_eq, Bool.and_eq_true, List.mapM_cons, List.mapM_nil, Option.bind_eq_bind, Option.pure_def, aeqK_agg, aeqK_scal, leavesK_nil, leavesK_cons, leafK_i, leafK_b, leafK_s, DrawK_nil, DrawK_cons, DrawK_guard, DResK_some, DGuardK_tt, DGuardK_ff, DGuardK_tf, DGuardK_ft, DGuardK_u, kept_load, Kept, KeptOne, closeOp, CO.quiet, CO.reads, CodeK_seq, CodeK_region, CodeK_skip, CodeK_ret, CodeK_exit, CodeK_cond, CodeK_block, CondK_true, CondK_false, RunK_cons, RunK_nil, RunK_guard, GuardK_tt, GuardK_ff, GuardK_tf, GuardK_ft, GuardK_u, ResK_some, RetK_nil, RetK_seq, RetK_seq_exit, RetK_seq_ret, RetK_block, RetK_block_ret, RetK_block_exit, RetK_block_exit_ne, op_mv, op_un, op_bin, op_load, loadV_ptr, op_faddr, faddrV_ptr, op_pick, pickV_true, pickV_false, pickV_bool, pickV_same, op_box, boxV_agg, op_call, op_build, op_ext, op_alloc, op_store, storeV_ptr, List.all_cons, List.all_nil, AV.one, AV.cells, Bool.and_self, Bool.and_true, Bool.true_and, put, CA.ev, List.set_cons_zero, List.set_cons_succ, List.getD_cons_zero, List.getD_cons_succ, abin, aint, aun, isShift, Option.map_some, Option.bind_some, List.map_cons, List.map_nil, Hp.n_withLow, Hp.n_push, Hp.n_set, Hp.low_withLow, Hp.low_push, Hp.low_set, Hp.get_push, Hp.get_set, Hp.get_withLow, readVar, readCell, readCells, writeCells, cut, fillA, Bool.false_eq_true, if_false, if_true, reduceIte, List.getElem?_cons_zero, List.getElem?_cons_succ, Nat.zero_add, Nat.add_zero, Nat.reduceAdd, Nat.reduceSub, Nat.reduceLT, Nat.reduceLeDiff, Nat.reduceEqDiff, List.length_cons, List.length_nil, List.take_succ_cons, List.take_zero, List.drop_zero, List.drop_succ_cons, List.cons_append, List.nil_append, List.append_nil, DoneK, resAll, resOne, AV.under, AV.unders, and_true, true_and, and_self, or_true, true_or, cond_true, cond_false, Nat.le_refl, Nat.add_eq_left, Nat.left_eq_add, Nat.add_right_cancel_iff, Nat.add_left_cancel_iff, hlen, l1, *]) | (refine GuardK_split (fun hb => ?_) (fun hb => ?_)) | (refine CondK_split (fun hb => ?_) (fun hb => ?_)) | (refine CodeK_regionD _ ?_) | (refine DGuardK_split (fun hb => ?_) (fun hb => ?_))
    by_cases h2 : 64 < hands
    · have l1 : decide (hands < 1) = false := by simp; omega
      have l2 : decide (64 < hands) = true := by simp [h2]
      repeat' first | (simp only [op_lenS, lenSV_str, op_lenV, lenV_slice, op_toInt, toIntV_int, op_iaddrS, RetK_inv, RetK_inv_exit, RetK_inv_ret, Nat.add_assoc, Nat.reduceEqDiff, Nat.reduceBEq, Nat.reduceBNe, Nat.le_min, Nat.le_add_right, Nat.min_self, Int.reduceBEq, Int.reduceBNe, Int.reduceLT, Int.reduceLE, Int.reduceEq, beq_self_eq_true, bne_self_eq_false, Bool.not_true, Bool.not_false, decide_true, decide_false, decide_eq_true_eq, Bool.and_eq_true, List.mapM_cons, List.mapM_nil, Option.bind_eq_bind, Option.pure_def, aeqK_agg, aeqK_scal, leavesK_nil, leavesK_cons, leafK_i, leafK_b, leafK_s, DrawK_nil, DrawK_cons, DrawK_guard, DResK_some, DGuardK_tt, DGuardK_ff, DGuardK_tf, DGuardK_ft, DGuardK_u, kept_load, Kept, KeptOne, closeOp, CO.quiet, CO.reads, CodeK_seq, CodeK_region, CodeK_skip, CodeK_ret, CodeK_exit, CodeK_cond, CodeK_block, CondK_true, CondK_false, RunK_cons, RunK_nil, RunK_guard, GuardK_tt, GuardK_ff, GuardK_tf, GuardK_ft, GuardK_u, ResK_some, RetK_nil, RetK_seq, RetK_seq_exit, RetK_seq_ret, RetK_block, RetK_block_ret, RetK_block_exit, RetK_block_exit_ne, op_mv, op_un, op_bin, op_load, loadV_ptr, op_faddr, faddrV_ptr, op_pick, pickV_true, pickV_false, pickV_bool, pickV_same, op_box, boxV_agg, op_call, op_build, op_ext, op_alloc, op_store, storeV_ptr, List.all_cons, List.all_nil, AV.one, AV.cells, Bool.and_self, Bool.and_true, Bool.true_and, put, CA.ev, List.set_cons_zero, List.set_cons_succ, List.getD_cons_zero, List.getD_cons_succ, abin, aint, aun, isShift, Option.map_some, Option.bind_some, List.map_cons, List.map_nil, Hp.n_withLow, Hp.n_push, Hp.n_set, Hp.low_withLow, Hp.low_push, Hp.low_set, Hp.get_push, Hp.get_set, Hp.get_withLow, readVar, readCell, readCells, writeCells, cut, fillA, Bool.false_eq_true, if_false, if_true, reduceIte, List.getElem?_cons_zero, List.getElem?_cons_succ, Nat.zero_add, Nat.add_zero, Nat.reduceAdd, Nat.reduceSub, Nat.reduceLT, Nat.reduceLeDiff, Nat.reduceEqDiff, List.length_cons, List.length_nil, List.take_succ_cons, List.take_zero, List.drop_zero, List.drop_succ_cons, List.cons_append, List.nil_append, List.append_nil, DoneK, resAll, resOne, AV.under, AV.unders, and_true, true_and, and_self, or_true, true_or, cond_true, cond_false, Nat.le_refl, Nat.add_eq_left, Nat.left_eq_add, Nat.add_right_cancel_iff, Nat.add_left_cancel_iff, hlen, l1, l2, *]) | (refine GuardK_split (fun hb => ?_) (fun hb => ?_)) | (refine CondK_split (fun hb => ?_) (fun hb => ?_)) | (refine CodeK_regionD _ ?_) | (refine DGuardK_split (fun hb => ?_) (fun hb => ?_))
    by_cases h3 : each < 0
    · have l1 : decide (hands < 1) = false := by simp; omega
      have l2 : decide (64 < hands) = false := by simp; omega
      have l3 : decide (each < 0) = true := by simp [h3]
      repeat' first | (simp only [op_lenS, lenSV_str, op_lenV, lenV_slice, op_toInt, toIntV_int, op_iaddrS, RetK_inv, RetK_inv_exit, RetK_inv_ret, Nat.add_assoc, Nat.reduceEqDiff, Nat.reduceBEq, Nat.reduceBNe, Nat.le_min, Nat.le_add_right, Nat.min_self, Int.reduceBEq, Int.reduceBNe, Int.reduceLT, Int.reduceLE, Int.reduceEq, beq_self_eq_true, bne_self_eq_false, Bool.not_true, Bool.not_false, decide_true, decide_false, decide_eq_true_eq, Bool.and_eq_true, List.mapM_cons, List.mapM_nil, Option.bind_eq_bind, Option.pure_def, aeqK_agg, aeqK_scal, leavesK_nil, leavesK_cons, leafK_i, leafK_b, leafK_s, DrawK_nil, DrawK_cons, DrawK_guard, DResK_some, DGuardK_tt, DGuardK_ff, DGuardK_tf, DGuardK_ft, DGuardK_u, kept_load, Kept, KeptOne, closeOp, CO.quiet, CO.reads, CodeK_seq, CodeK_region, CodeK_skip, CodeK_ret, CodeK_exit, CodeK_cond, CodeK_block, CondK_true, CondK_false, RunK_cons, RunK_nil, RunK_guard, GuardK_tt, GuardK_ff, GuardK_tf, GuardK_ft, GuardK_u, ResK_some, RetK_nil, RetK_seq, RetK_seq_exit, RetK_seq_ret, RetK_block, RetK_block_ret, RetK_block_exit, RetK_block_exit_ne, op_mv, op_un, op_bin, op_load, loadV_ptr, op_faddr, faddrV_ptr, op_pick, pickV_true, pickV_false, pickV_bool, pickV_same, op_box, boxV_agg, op_call, op_build, op_ext, op_alloc, op_store, storeV_ptr, List.all_cons, List.all_nil, AV.one, AV.cells, Bool.and_self, Bool.and_true, Bool.true_and, put, CA.ev, List.set_cons_zero, List.set_cons_succ, List.getD_cons_zero, List.getD_cons_succ, abin, aint, aun, isShift, Option.map_some, Option.bind_some, List.map_cons, List.map_nil, Hp.n_withLow, Hp.n_push, Hp.n_set, Hp.low_withLow, Hp.low_push, Hp.low_set, Hp.get_push, Hp.get_set, Hp.get_withLow, readVar, readCell, readCells, writeCells, cut, fillA, Bool.false_eq_true, if_false, if_true, reduceIte, List.getElem?_cons_zero, List.getElem?_cons_succ, Nat.zero_add, Nat.add_zero, Nat.reduceAdd, Nat.reduceSub, Nat.reduceLT, Nat.reduceLeDiff, Nat.reduceEqDiff, List.length_cons, List.length_nil, List.take_succ_cons, List.take_zero, List.drop_zero, List.drop_succ_cons, List.cons_append, List.nil_append, List.append_nil, DoneK, resAll, resOne, AV.under, AV.unders, and_true, true_and, and_self, or_true, true_or, cond_true, cond_false, Nat.le_refl, Nat.add_eq_left, Nat.left_eq_add, Nat.add_right_cancel_iff, Nat.add_left_cancel_iff, hlen, l1, l2, l3, *]) | (refine GuardK_split (fun hb => ?_) (fun hb => ?_)) | (refine CondK_split (fun hb => ?_) (fun hb => ?_)) | (refine CodeK_regionD _ ?_) | (refine DGuardK_split (fun hb => ?_) (fun hb => ?_))
    · have l1 : decide (hands < 1) = false := by simp; omega
      have l2 : decide (64 < hands) = false := by simp; omega
      have l3 : decide (each < 0) = false := by simp; omega
      have hq0 : 0 ≤ (xs.length : Int).tdiv hands := Int.tdiv_nonneg (by omega) (by omega)
      have hq1 : (xs.length : Int).tdiv hands ≤ xs.length := by
        exact Int.tdiv_le_self hands (by omega)
      have w1 : IntKind.wrap .i64 ((xs.length : Int).tdiv hands) = (xs.length : Int).tdiv hands := wrap_i64 (by omega) (by omega)
      have l4 : decide ((xs.length : Int).tdiv hands < each) = true := by rw [decide_eq_true_eq]; omega
      have n0 : (hands = 0) = False := by simp; omega
      repeat' first | (simp only [op_lenS, lenSV_str, op_lenV, lenV_slice, op_toInt, toIntV_int, op_iaddrS, RetK_inv, RetK_inv_exit, RetK_inv_ret, Nat.add_assoc, Nat.reduceEqDiff, Nat.reduceBEq, Nat.reduceBNe, Nat.le_min, Nat.le_add_right, Nat.min_self, Int.reduceBEq, Int.reduceBNe, Int.reduceLT, Int.reduceLE, Int.reduceEq, beq_self_eq_true, bne_self_eq_false, Bool.not_true, Bool.not_false, decide_true, decide_false, decide_eq_true_eq, Bool.and_eq_true, List.mapM_cons, List.mapM_nil, Option.bind_eq_bind, Option.pure_def, aeqK_agg, aeqK_scal, leavesK_nil, leavesK_cons, leafK_i, leafK_b, leafK_s, DrawK_nil, DrawK_cons, DrawK_guard, DResK_some, DGuardK_tt, DGuardK_ff, DGuardK_tf, DGuardK_ft, DGuardK_u, kept_load, Kept, KeptOne, closeOp, CO.quiet, CO.reads, CodeK_seq, CodeK_region, CodeK_skip, CodeK_ret, CodeK_exit, CodeK_cond, CodeK_block, CondK_true, CondK_false, RunK_cons, RunK_nil, RunK_guard, GuardK_tt, GuardK_ff, GuardK_tf, GuardK_ft, GuardK_u, ResK_some, RetK_nil, RetK_seq, RetK_seq_exit, RetK_seq_ret, RetK_block, RetK_block_ret, RetK_block_exit, RetK_block_exit_ne, op_mv, op_un, op_bin, op_load, loadV_ptr, op_faddr, faddrV_ptr, op_pick, pickV_true, pickV_false, pickV_bool, pickV_same, op_box, boxV_agg, op_call, op_build, op_ext, op_alloc, op_store, storeV_ptr, List.all_cons, List.all_nil, AV.one, AV.cells, Bool.and_self, Bool.and_true, Bool.true_and, put, CA.ev, List.set_cons_zero, List.set_cons_succ, List.getD_cons_zero, List.getD_cons_succ, abin, aint, aun, isShift, Option.map_some, Option.bind_some, List.map_cons, List.map_nil, Hp.n_withLow, Hp.n_push, Hp.n_set, Hp.low_withLow, Hp.low_push, Hp.low_set, Hp.get_push, Hp.get_set, Hp.get_withLow, readVar, readCell, readCells, writeCells, cut, fillA, Bool.false_eq_true, if_false, if_true, reduceIte, List.getElem?_cons_zero, List.getElem?_cons_succ, Nat.zero_add, Nat.add_zero, Nat.reduceAdd, Nat.reduceSub, Nat.reduceLT, Nat.reduceLeDiff, Nat.reduceEqDiff, List.length_cons, List.length_nil, List.take_succ_cons, List.take_zero, List.drop_zero, List.drop_succ_cons, List.cons_append, List.nil_append, List.append_nil, DoneK, resAll, resOne, AV.under, AV.unders, and_true, true_and, and_self, or_true, true_or, cond_true, cond_false, Nat.le_refl, Nat.add_eq_left, Nat.left_eq_add, Nat.add_right_cancel_iff, Nat.add_left_cancel_iff, hlen, l1, l2, l3, l4, w1, n0, *]) | (refine GuardK_split (fun hb => ?_) (fun hb => ?_)) | (refine CondK_split (fun hb => ?_) (fun hb => ?_)) | (refine CodeK_regionD _ ?_) | (refine DGuardK_split (fun hb => ?_) (fun hb => ?_))
  | false =>
    obtain ⟨H, E, rfl, rfl, h1, h2, h3⟩ := dealB_ok hb
    obtain ⟨v1, h1', e1, w, g, vs, rfl, g2, g3, g4, g5, g6⟩ := refdeal_ok ho ho2 hr hl h1 h2 h3
    have hrl : ((List.range H).map fun j => rowR H xs j E).length = H := by simp
    refine ⟨_, _, e1, _, _, vs, (List.range H).map fun j => rowR H xs j E, xs.drop (H * E), 0, rfl, g2, ⟨fun hx => g3.len hx, fun i x hx => ?_⟩, by rw [hrl, g4], fun j xs' hx => ?_, g6, by rw [hb]; simp⟩
    · rcases g3 with ⟨rfl, _⟩ | ⟨_, b, q1, q2, rfl, q4⟩
      · simp at hx
      · have hlt := (List.getElem?_eq_some_iff.1 hx).1
        exact ⟨b, vs, false, fun hy => by rw [iaddrV_nat hlt, Nat.mul_one, Nat.zero_add], q4, hx, q1, q2⟩
    · rw [List.getElem?_map] at hx
      obtain ⟨j', hj', rfl⟩ := Option.map_eq_some_iff.1 hx
      have hlt := (List.getElem?_eq_some_iff.1 hj').1
      rw [List.length_range] at hlt
      rw [List.getElem?_range hlt] at hj'
      cases hj'
      exact g5 j hlt
end Go.Proofs.Po
