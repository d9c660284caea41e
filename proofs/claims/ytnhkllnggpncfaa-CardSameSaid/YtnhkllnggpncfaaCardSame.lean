/- Lists of parts: is a lent one as it was? -/
import Derived.Test.YtnhkllnggpncfaaCardMem
namespace Go.Proofs.Cards
open Go Go.Fs
set_option linter.unusedSimpArgs false
variable {orc : Orc}

/-- An append to a copy. -/
theorem append_copy {h : AH} {b : Nat} {ps qs : List Prt} {v x : AV} (hv : (ps = [] ∧ v = .slice none 0 (.exact 0)) ∨ (v = .slice (some (b, 0)) ps.length (.opn 8) ∧ h.get b = some (.cells (pcells ps) false)))
    (hx : Parts h x qs) (hq : 0 < qs.length) (hl : (ps.length + qs.length) * 40 ≤ 140737488355328) :
    ∃ v' h', appendRun 8 40 v x h = some (v', h') ∧ Parts h' v' (ps ++ qs) ∧ h.n ≤ h'.n ∧ (∀ b', b' < h.n → b' ≠ b → h'.get b' = h.get b') ∧ min h.low b ≤ h'.low := by
  rcases hv with ⟨rfl, rfl⟩ | ⟨rfl, hg⟩
  · have := append_nil hx (by simpa using hl)
    rw [if_neg (by omega)] at this
    refine ⟨_, _, this, ?_, by simp, fun b' hb' _ => Hp.get_push_ne _ _ _ (by omega), by simp; omega⟩
    refine parts_block (ps := [] ++ qs) (qs := []) (ro := false) ?_ (by simp) (by simp) (by simp; omega)
    rw [Hp.get_push_self]
    simp
  · obtain ⟨h1, h2⟩ := elems_parts hx
    have hold : elemsOf 8 h (.slice (some (b, 0)) ps.length (.opn 8)) = some (pcells ps) := by
      by_cases hz : ps.length = 0
      · have : ps = [] := by simpa using hz
        subst this
        rfl
      · simp only [elemsOf, if_neg hz, readCells, hg]
        refine cut_of (by rw [length_pcells]; omega) ?_
        rw [List.drop_zero, List.take_of_length_le (by rw [length_pcells]; omega)]
    refine ⟨.slice (some (h.n, 0)) (ps.length + qs.length) (.opn 8), (h.set b .dead).push (.cells (pcells ps ++ pcells qs) false), ?_, ?_, by simp, fun b' hb' hne => ?_, ?_⟩
    · unfold appendRun
      rw [h2, Option.bind_some, h1, Option.bind_some]
      unfold appendCore
      simp only
      rw [hold, Option.bind_some]
      simp only [if_true, hg]
      rw [if_neg (by omega), if_neg (by rw [length_pcells]; omega), if_pos ⟨by rw [length_pcells]; omega, one_pcells qs⟩, if_pos ⟨by omega, by omega⟩]
      rfl
    · refine parts_block (ps := ps ++ qs) (qs := []) (ro := false) ?_ (by simp) (by simp) (by simp; omega)
      rw [show h.n = (h.set b .dead).n from rfl, Hp.get_push_self, List.append_nil, pcells_append]
    · rw [Hp.get_push_ne _ _ _ (by simp; omega), Hp.get_set_ne _ _ _ _ hne]
    · simp

set_option maxRecDepth 100000 in
theorem kept_spec (ho : orc 31 = none) (ho2 : orc 70 = none) (ho3 : orc 71 = none) {v u : AV} {fs ps : List Prt} {h : AH} (hf : Parts h v fs) (hp : Parts h u ps) (hl : (ps.length + 2) * 40 ≤ 140737488355328) :
    acall orc T 31 [v, u] h = some (.bool (decide (fs = ps ++ [mark, mark])), h) := by
  refine acall_sym ho tbl31 ?_
  dsimp only [List.length, List.replicate, List.append, List.cons_append, List.nil_append, Nat.reduceAdd, Nat.reduceSub]
  repeat' first | (simp only [op_lenS, lenSV_str, op_lenV, lenV_slice, op_toInt, toIntV_int, op_iaddrS, RetK_inv, RetK_inv_exit, RetK_inv_ret, Nat.add_assoc, Nat.reduceEqDiff, Nat.reduceBEq, Nat.reduceBNe, Nat.le_min, Nat.le_add_right, Nat.min_self, Int.reduceBEq, Int.reduceBNe, Int.reduceLT, Int.reduceLE, Int.reduceEq, beq_self_eq_true, bne_self_eq_false, Bool.not_true, Bool.not_false, decide_true, decide_false, decide_eq_true_eq, Bool.and_eq_true, List.mapM_cons, List.mapM_nil, Option.bind_eq_bind, Option.pure_def, aeqK_agg, aeqK_scal, leavesK_nil, leavesK_cons, leafK_i, leafK_b, leafK_s, DrawK_nil, DrawK_cons, DrawK_guard, DResK_some, DGuardK_tt, DGuardK_ff, DGuardK_tf, DGuardK_ft, DGuardK_u, kept_load, Kept, KeptOne, closeOp, CO.quiet, CO.reads, CodeK_seq, CodeK_region, CodeK_skip, CodeK_ret, CodeK_exit, CodeK_cond, CodeK_block, CondK_true, CondK_false, RunK_cons, RunK_nil, RunK_guard, GuardK_tt, GuardK_ff, GuardK_tf, GuardK_ft, GuardK_u, ResK_some, RetK_nil, RetK_seq, RetK_seq_exit, RetK_seq_ret, RetK_block, RetK_block_ret, RetK_block_exit, RetK_block_exit_ne, op_mv, op_un, op_bin, op_load, loadV_ptr, op_faddr, faddrV_ptr, op_pick, pickV_true, pickV_false, pickV_bool, pickV_same, op_box, boxV_agg, op_call, op_build, op_ext, op_alloc, op_store, storeV_ptr, List.all_cons, List.all_nil, AV.one, AV.cells, Bool.and_self, Bool.and_true, Bool.true_and, put, CA.ev, List.set_cons_zero, List.set_cons_succ, List.getD_cons_zero, List.getD_cons_succ, abin, aint, aun, isShift, Option.map_some, Option.bind_some, List.map_cons, List.map_nil, Hp.n_withLow, Hp.n_push, Hp.n_set, Hp.low_withLow, Hp.low_push, Hp.low_set, Hp.get_push, Hp.get_set, Hp.get_withLow, readVar, readCell, readCells, writeCells, over, cut, fillA, Bool.false_eq_true, if_false, if_true, reduceIte, List.getElem?_cons_zero, List.getElem?_cons_succ, Nat.zero_add, Nat.add_zero, Nat.reduceAdd, Nat.reduceSub, Nat.reduceLT, Nat.reduceLeDiff, Nat.reduceEqDiff, List.length_cons, List.length_nil, List.take_succ_cons, List.take_zero, List.drop_zero, List.drop_succ_cons, List.cons_append, List.nil_append, List.append_nil, DoneK, resAll, resOne, AV.under, AV.unders, and_true, true_and, and_self, or_true, true_or, cond_true, cond_false, Nat.le_refl, Nat.add_eq_left, Nat.left_eq_add, Nat.add_right_cancel_iff, Nat.add_left_cancel_iff, *]) | (refine GuardK_split (fun hb => ?_) (fun hb => ?_)) | (refine CondK_split (fun hb => ?_) (fun hb => ?_)) | (refine CodeK_regionD _ ?_) | (refine DGuardK_split (fun hb => ?_) (fun hb => ?_))
  refine ResK_ex (copy_spec ho3 (ps := ps) (hp.mono (Nat.le_refl _) fun _ _ => rfl) (by omega)) fun v1 h1 hc => ?_
  have g1 : h.n ≤ h1.n ∧ (∀ b, b < h.n → h1.get b = h.get b) ∧ h.n ≤ h1.low ∧ ((ps = [] ∧ v1 = .slice none 0 (.exact 0)) ∨ (v1 = .slice (some (h.n, 0)) ps.length (.opn 8) ∧ h1.get h.n = some (.cells (pcells ps) false) ∧ h1.n = h.n + 1)) := by
    rcases hc with ⟨e1, e2, e3⟩ | ⟨_, e2, e3, e4, e5, e6⟩
    · subst e3
      exact ⟨Nat.le_refl _, fun _ _ => rfl, Nat.le_refl _, .inl ⟨e1, e2⟩⟩
    · simp only [Hp.n_withLow, Hp.low_withLow, Hp.get_withLow] at e2 e3 e4 e5 e6
      exact ⟨by omega, e5, by omega, .inr ⟨e2, e4, e3⟩⟩
  obtain ⟨k1, k2, k3, k4⟩ := g1
  repeat' first | (simp only [op_lenS, lenSV_str, op_lenV, lenV_slice, op_toInt, toIntV_int, op_iaddrS, RetK_inv, RetK_inv_exit, RetK_inv_ret, Nat.add_assoc, Nat.reduceEqDiff, Nat.reduceBEq, Nat.reduceBNe, Nat.le_min, Nat.le_add_right, Nat.min_self, Int.reduceBEq, Int.reduceBNe, Int.reduceLT, Int.reduceLE, Int.reduceEq, beq_self_eq_true, bne_self_eq_false, Bool.not_true, Bool.not_false, decide_true, decide_false, decide_eq_true_eq, Bool.and_eq_true, List.mapM_cons, List.mapM_nil, Option.bind_eq_bind, Option.pure_def, aeqK_agg, aeqK_scal, leavesK_nil, leavesK_cons, leafK_i, leafK_b, leafK_s, DrawK_nil, DrawK_cons, DrawK_guard, DResK_some, DGuardK_tt, DGuardK_ff, DGuardK_tf, DGuardK_ft, DGuardK_u, kept_load, Kept, KeptOne, closeOp, CO.quiet, CO.reads, CodeK_seq, CodeK_region, CodeK_skip, CodeK_ret, CodeK_exit, CodeK_cond, CodeK_block, CondK_true, CondK_false, RunK_cons, RunK_nil, RunK_guard, GuardK_tt, GuardK_ff, GuardK_tf, GuardK_ft, GuardK_u, ResK_some, RetK_nil, RetK_seq, RetK_seq_exit, RetK_seq_ret, RetK_block, RetK_block_ret, RetK_block_exit, RetK_block_exit_ne, op_mv, op_un, op_bin, op_load, loadV_ptr, op_faddr, faddrV_ptr, op_pick, pickV_true, pickV_false, pickV_bool, pickV_same, op_box, boxV_agg, op_call, op_build, op_ext, op_alloc, op_store, storeV_ptr, List.all_cons, List.all_nil, AV.one, AV.cells, Bool.and_self, Bool.and_true, Bool.true_and, put, CA.ev, List.set_cons_zero, List.set_cons_succ, List.getD_cons_zero, List.getD_cons_succ, abin, aint, aun, isShift, Option.map_some, Option.bind_some, List.map_cons, List.map_nil, Hp.n_withLow, Hp.n_push, Hp.n_set, Hp.low_withLow, Hp.low_push, Hp.low_set, Hp.get_push, Hp.get_set, Hp.get_withLow, readVar, readCell, readCells, writeCells, over, cut, fillA, Bool.false_eq_true, if_false, if_true, reduceIte, List.getElem?_cons_zero, List.getElem?_cons_succ, Nat.zero_add, Nat.add_zero, Nat.reduceAdd, Nat.reduceSub, Nat.reduceLT, Nat.reduceLeDiff, Nat.reduceEqDiff, List.length_cons, List.length_nil, List.take_succ_cons, List.take_zero, List.drop_zero, List.drop_succ_cons, List.cons_append, List.nil_append, List.append_nil, DoneK, resAll, resOne, AV.under, AV.unders, and_true, true_and, and_self, or_true, true_or, cond_true, cond_false, Nat.le_refl, Nat.add_eq_left, Nat.left_eq_add, Nat.add_right_cancel_iff, Nat.add_left_cancel_iff, op_litS, op_append, reps, *]) | (refine GuardK_split (fun hb => ?_) (fun hb => ?_)) | (refine CondK_split (fun hb => ?_) (fun hb => ?_)) | (refine CodeK_regionD _ ?_) | (refine DGuardK_split (fun hb => ?_) (fun hb => ?_))
  refine ResK_ex (append_copy (b := h.n) (ps := ps) (qs := [mark, mark]) ?_ ?_ (by simp) (by simpa using hl)) fun v2 h2 ⟨e1, e2, e3, e4⟩ => ?_
  · rcases k4 with ⟨a1, a2⟩ | ⟨a1, a2, a3⟩
    · exact .inl ⟨a1, a2⟩
    · refine .inr ⟨a1, ?_⟩
      rw [Hp.get_push_ne _ _ _ (by omega)]
      exact a2
  · refine parts_block (qs := []) (ro := false) ?_ ?_ rfl (by decide)
    · rw [Hp.get_push_self]; rfl
    · simp
  · simp only [Hp.n_push, Hp.low_push] at e2 e3 e4
    have hold : ∀ b, b < h.n → h2.get b = h.get b := fun b hb => by
      rw [e3 b (by omega) (by omega), Hp.get_push_ne _ _ _ (by omega), k2 b hb]
    have c1 := same_spec ho2 (h := h2) (hf.mono (by omega) hold) e1
    repeat' first | (simp only [op_lenS, lenSV_str, op_lenV, lenV_slice, op_toInt, toIntV_int, op_iaddrS, RetK_inv, RetK_inv_exit, RetK_inv_ret, Nat.add_assoc, Nat.reduceEqDiff, Nat.reduceBEq, Nat.reduceBNe, Nat.le_min, Nat.le_add_right, Nat.min_self, Int.reduceBEq, Int.reduceBNe, Int.reduceLT, Int.reduceLE, Int.reduceEq, beq_self_eq_true, bne_self_eq_false, Bool.not_true, Bool.not_false, decide_true, decide_false, decide_eq_true_eq, Bool.and_eq_true, List.mapM_cons, List.mapM_nil, Option.bind_eq_bind, Option.pure_def, aeqK_agg, aeqK_scal, leavesK_nil, leavesK_cons, leafK_i, leafK_b, leafK_s, DrawK_nil, DrawK_cons, DrawK_guard, DResK_some, DGuardK_tt, DGuardK_ff, DGuardK_tf, DGuardK_ft, DGuardK_u, kept_load, Kept, KeptOne, closeOp, CO.quiet, CO.reads, CodeK_seq, CodeK_region, CodeK_skip, CodeK_ret, CodeK_exit, CodeK_cond, CodeK_block, CondK_true, CondK_false, RunK_cons, RunK_nil, RunK_guard, GuardK_tt, GuardK_ff, GuardK_tf, GuardK_ft, GuardK_u, ResK_some, RetK_nil, RetK_seq, RetK_seq_exit, RetK_seq_ret, RetK_block, RetK_block_ret, RetK_block_exit, RetK_block_exit_ne, op_mv, op_un, op_bin, op_load, loadV_ptr, op_faddr, faddrV_ptr, op_pick, pickV_true, pickV_false, pickV_bool, pickV_same, op_box, boxV_agg, op_call, op_build, op_ext, op_alloc, op_store, storeV_ptr, List.all_cons, List.all_nil, AV.one, AV.cells, Bool.and_self, Bool.and_true, Bool.true_and, put, CA.ev, List.set_cons_zero, List.set_cons_succ, List.getD_cons_zero, List.getD_cons_succ, abin, aint, aun, isShift, Option.map_some, Option.bind_some, List.map_cons, List.map_nil, Hp.n_withLow, Hp.n_push, Hp.n_set, Hp.low_withLow, Hp.low_push, Hp.low_set, Hp.get_push, Hp.get_set, Hp.get_withLow, readVar, readCell, readCells, writeCells, over, cut, fillA, Bool.false_eq_true, if_false, if_true, reduceIte, List.getElem?_cons_zero, List.getElem?_cons_succ, Nat.zero_add, Nat.add_zero, Nat.reduceAdd, Nat.reduceSub, Nat.reduceLT, Nat.reduceLeDiff, Nat.reduceEqDiff, List.length_cons, List.length_nil, List.take_succ_cons, List.take_zero, List.drop_zero, List.drop_succ_cons, List.cons_append, List.nil_append, List.append_nil, DoneK, resAll, resOne, AV.under, AV.unders, and_true, true_and, and_self, or_true, true_or, cond_true, cond_false, Nat.le_refl, Nat.add_eq_left, Nat.left_eq_add, Nat.add_right_cancel_iff, Nat.add_left_cancel_iff, c1, *]) | (refine GuardK_split (fun hb => ?_) (fun hb => ?_)) | (refine CondK_split (fun hb => ?_) (fun hb => ?_)) | (refine CodeK_regionD _ ?_) | (refine DGuardK_split (fun hb => ?_) (fun hb => ?_))
    omega

structure Crd where
  name : List UInt8
  suit : Int
  kind : Int
  cost : Int
  power : Int
  health : Int
  traits : Int
  token : Bool
  deriving DecidableEq

def Crd.cells (c : Crd) (v : AV) : List AV := [.str c.name, .int .u8 c.suit, .int .u8 c.kind, .int .i64 c.cost, .int .i64 c.power, .int .i64 c.health, .int .u16 c.traits, .bool c.token, v]

theorem parts_one {h : AH} {v : AV} {ps : List Prt} (hp : Parts h v ps) : v.one = true ∧ v.cells = [v] := by
  obtain ⟨a, c, rfl, _⟩ := hp
  exact ⟨rfl, rfl⟩

theorem parts_lent {h h' : AH} {ps : List Prt} {v : AV} (hl : Lent h ps v h') (hb : ps.length ≤ 1152921504606846900) : Parts h' v (ps ++ [mark, mark]) ∧ Parts h' (.slice (some (h.n, 0)) ps.length (.exact (ps.length + 2))) ps := by
  obtain ⟨rfl, h1, h2, _, _⟩ := hl
  exact ⟨parts_block (qs := []) (by rw [List.append_nil]; exact h2) h1 (by simp) (by simp; omega), parts_block h2 h1 rfl (by omega)⟩

def LentC (h : AH) (c : Crd) (ps : List Prt) (v : AV) (h' : AH) : Prop :=
  ∃ s1 s2, v = .tuple [.agg (c.cells s1), s2] ∧ Parts h' s1 ps ∧ Parts h' s2 (ps ++ [mark, mark]) ∧ h.n ≤ h'.n ∧ (∀ b, b < h.n → h'.get b = h.get b) ∧ min h.low h.n ≤ h'.low

set_option maxRecDepth 100000 in
theorem lentcard_spec (ho : orc 28 = none) (ho2 : orc 67 = none) {c : Crd} {v : AV} {ps : List Prt} {h : AH} (hp : Parts h v ps) (hl : ps.length * 40 ≤ 140737488355328) :
    ∃ v' h', acall orc T 28 [.agg (c.cells v)] h = some (v', h') ∧ LentC h c ps v' h' := by
  refine acall_facts ho tbl28 ?_
  obtain ⟨a, cc, rfl, hle, hpa⟩ := id hp
  dsimp only [List.length, List.replicate, List.append, List.cons_append, List.nil_append, Nat.reduceAdd, Nat.reduceSub, Crd.cells]
  repeat' first | (simp only [op_lenS, lenSV_str, op_lenV, lenV_slice, op_toInt, toIntV_int, op_iaddrS, RetK_inv, RetK_inv_exit, RetK_inv_ret, Nat.add_assoc, Nat.reduceEqDiff, Nat.reduceBEq, Nat.reduceBNe, Nat.le_min, Nat.le_add_right, Nat.min_self, Int.reduceBEq, Int.reduceBNe, Int.reduceLT, Int.reduceLE, Int.reduceEq, beq_self_eq_true, bne_self_eq_false, Bool.not_true, Bool.not_false, decide_true, decide_false, decide_eq_true_eq, Bool.and_eq_true, List.mapM_cons, List.mapM_nil, Option.bind_eq_bind, Option.pure_def, aeqK_agg, aeqK_scal, leavesK_nil, leavesK_cons, leafK_i, leafK_b, leafK_s, DrawK_nil, DrawK_cons, DrawK_guard, DResK_some, DGuardK_tt, DGuardK_ff, DGuardK_tf, DGuardK_ft, DGuardK_u, kept_load, Kept, KeptOne, closeOp, CO.quiet, CO.reads, CodeK_seq, CodeK_region, CodeK_skip, CodeK_ret, CodeK_exit, CodeK_cond, CodeK_block, CondK_true, CondK_false, RunK_cons, RunK_nil, RunK_guard, GuardK_tt, GuardK_ff, GuardK_tf, GuardK_ft, GuardK_u, ResK_some, RetK_nil, RetK_seq, RetK_seq_exit, RetK_seq_ret, RetK_block, RetK_block_ret, RetK_block_exit, RetK_block_exit_ne, op_mv, op_un, op_bin, op_load, loadV_ptr, op_faddr, faddrV_ptr, op_pick, pickV_true, pickV_false, pickV_bool, pickV_same, op_box, boxV_agg, op_call, op_build, op_ext, op_alloc, op_store, storeV_ptr, List.all_cons, List.all_nil, AV.one, AV.cells, Bool.and_self, Bool.and_true, Bool.true_and, put, CA.ev, List.set_cons_zero, List.set_cons_succ, List.getD_cons_zero, List.getD_cons_succ, abin, aint, aun, isShift, Option.map_some, Option.bind_some, List.map_cons, List.map_nil, Hp.n_withLow, Hp.n_push, Hp.n_set, Hp.low_withLow, Hp.low_push, Hp.low_set, Hp.get_push, Hp.get_set, Hp.get_withLow, readVar, readCell, readCells, writeCells, over, cut, fillA, Bool.false_eq_true, if_false, if_true, reduceIte, List.getElem?_cons_zero, List.getElem?_cons_succ, Nat.zero_add, Nat.add_zero, Nat.reduceAdd, Nat.reduceSub, Nat.reduceLT, Nat.reduceLeDiff, Nat.reduceEqDiff, List.length_cons, List.length_nil, List.take_succ_cons, List.take_zero, List.drop_zero, List.drop_succ_cons, List.cons_append, List.nil_append, List.append_nil, DoneK, resAll, resOne, AV.under, AV.unders, and_true, true_and, and_self, or_true, true_or, cond_true, cond_false, Nat.le_refl, Nat.add_eq_left, Nat.left_eq_add, Nat.add_right_cancel_iff, Nat.add_left_cancel_iff, *]) | (refine GuardK_split (fun hb => ?_) (fun hb => ?_)) | (refine CondK_split (fun hb => ?_) (fun hb => ?_)) | (refine CodeK_regionD _ ?_) | (refine DGuardK_split (fun hb => ?_) (fun hb => ?_))
  refine ResK_ex (lent_spec ho2 (ps := ps) (hp.mono (by simp; omega) fun b hb => ?_) hl) fun v1 h1 hL => ?_
  · have n1 : ¬ b = h.n := by omega
    have n2 : ¬ b = h.n + 1 := by omega
    simp only [Hp.get_push, Hp.n_push, Hp.n_withLow, n1, n2, if_false, Hp.get_withLow]
  · obtain ⟨p1, p2⟩ := parts_lent hL (by omega)
    obtain ⟨rfl, e1, e2, e3, e4⟩ := hL
    simp only [Hp.n_push, Hp.n_withLow, Hp.low_push, Hp.low_withLow, Nat.add_assoc, Nat.reduceAdd] at e1 e3 e4 p1 p2
    have q0 : h1.get h.n = some (.cells (c.cells (.slice a ps.length cc)) false) := by
      rw [e3 h.n (by omega)]
      have n1 : ¬ h.n = h.n + 1 := by omega
      simp only [Hp.get_push, Hp.n_push, Hp.n_withLow, n1, if_false, if_true, Crd.cells]
    have q1 : h1.get (h.n + 1) = some (.cells [.str [], .int .u8 0, .int .u8 0, .int .i64 0, .int .i64 0, .int .i64 0, .int .u16 0, .bool false, .slice none 0 (.exact 0)] false) := by
      rw [e3 (h.n + 1) (by omega)]
      simp only [Hp.get_push, Hp.n_push, Hp.n_withLow, if_true]
    dsimp only [Crd.cells] at q0
    simp only [Hp.n_push, Hp.n_withLow, Nat.add_assoc, Nat.reduceAdd]
    have s1 : ∀ (tm : List AV) (hx : AH), tm.getD 11 AV.undef = .int .i64 (ps.length : Int) → slcVV tm 8 (.slice (some (h.n + 2, 0)) (ps.length + 2) (.exact (ps.length + 2))) none (some (.t 11)) none hx =
        some (.slice (some (h.n + 2, 0)) ps.length (.exact (ps.length + 2)), hx) := fun tm hx hi => slcVV_hi (h := hx) hi (by omega) (by omega)
    repeat' first | (simp only [op_lenS, lenSV_str, op_lenV, lenV_slice, op_toInt, toIntV_int, op_iaddrS, RetK_inv, RetK_inv_exit, RetK_inv_ret, Nat.add_assoc, Nat.reduceEqDiff, Nat.reduceBEq, Nat.reduceBNe, Nat.le_min, Nat.le_add_right, Nat.min_self, Int.reduceBEq, Int.reduceBNe, Int.reduceLT, Int.reduceLE, Int.reduceEq, beq_self_eq_true, bne_self_eq_false, Bool.not_true, Bool.not_false, decide_true, decide_false, decide_eq_true_eq, Bool.and_eq_true, List.mapM_cons, List.mapM_nil, Option.bind_eq_bind, Option.pure_def, aeqK_agg, aeqK_scal, leavesK_nil, leavesK_cons, leafK_i, leafK_b, leafK_s, DrawK_nil, DrawK_cons, DrawK_guard, DResK_some, DGuardK_tt, DGuardK_ff, DGuardK_tf, DGuardK_ft, DGuardK_u, kept_load, Kept, KeptOne, closeOp, CO.quiet, CO.reads, CodeK_seq, CodeK_region, CodeK_skip, CodeK_ret, CodeK_exit, CodeK_cond, CodeK_block, CondK_true, CondK_false, RunK_cons, RunK_nil, RunK_guard, GuardK_tt, GuardK_ff, GuardK_tf, GuardK_ft, GuardK_u, ResK_some, RetK_nil, RetK_seq, RetK_seq_exit, RetK_seq_ret, RetK_block, RetK_block_ret, RetK_block_exit, RetK_block_exit_ne, op_mv, op_un, op_bin, op_load, loadV_ptr, op_faddr, faddrV_ptr, op_pick, pickV_true, pickV_false, pickV_bool, pickV_same, op_box, boxV_agg, op_call, op_build, op_ext, op_alloc, op_store, storeV_ptr, List.all_cons, List.all_nil, AV.one, AV.cells, Bool.and_self, Bool.and_true, Bool.true_and, put, CA.ev, List.set_cons_zero, List.set_cons_succ, List.getD_cons_zero, List.getD_cons_succ, abin, aint, aun, isShift, Option.map_some, Option.bind_some, List.map_cons, List.map_nil, Hp.n_withLow, Hp.n_push, Hp.n_set, Hp.low_withLow, Hp.low_push, Hp.low_set, Hp.get_push, Hp.get_set, Hp.get_withLow, readVar, readCell, readCells, writeCells, over, cut, fillA, Bool.false_eq_true, if_false, if_true, reduceIte, List.getElem?_cons_zero, List.getElem?_cons_succ, Nat.zero_add, Nat.add_zero, Nat.reduceAdd, Nat.reduceSub, Nat.reduceLT, Nat.reduceLeDiff, Nat.reduceEqDiff, List.length_cons, List.length_nil, List.take_succ_cons, List.take_zero, List.drop_zero, List.drop_succ_cons, List.cons_append, List.nil_append, List.append_nil, DoneK, resAll, resOne, AV.under, AV.unders, and_true, true_and, and_self, or_true, true_or, cond_true, cond_false, Nat.le_refl, Nat.add_eq_left, Nat.left_eq_add, Nat.add_right_cancel_iff, Nat.add_left_cancel_iff, q0, q1, op_slcV, s1, Option.some.injEq, *]) | (refine GuardK_split (fun hb => ?_) (fun hb => ?_)) | (refine CondK_split (fun hb => ?_) (fun hb => ?_)) | (refine CodeK_regionD _ ?_) | (refine DGuardK_split (fun hb => ?_) (fun hb => ?_))
    refine ⟨_, rfl, ?_⟩
    have hun : AV.under h.n (.tuple [.agg (c.cells (.slice (some (h.n + 2, 0)) ps.length (.exact (ps.length + 2)))), .slice (some (h.n + 2, 0)) (ps.length + 2) (.exact (ps.length + 2))]) = false := by
      simp [AV.under, AV.unders, Crd.cells]
    dsimp only [Crd.cells] at hun
    rw [settle_new hun]
    have hg : ∀ b, b ≠ h.n → b ≠ h.n + 1 → ∀ x y l, (((h1.set h.n x).set (h.n + 1) y).withLow l).get b = h1.get b := fun b g1 g2 x y l => by
      rw [Hp.get_withLow, Hp.get_set_ne _ _ _ _ g2, Hp.get_set_ne _ _ _ _ g1]
    simp only [Hp.n_push, Hp.n_withLow, Nat.add_assoc, Nat.reduceAdd] at e2
    refine ⟨_, _, rfl, ?_, ?_, ?_, fun b hb => ?_, ?_⟩
    · refine parts_block (ps := ps) (qs := [mark, mark]) (ro := false) ?_ ?_ rfl (by omega)
      · rw [hg _ (by omega) (by omega)]; exact e2
      · simp only [Hp.n_withLow, Hp.n_set]; omega
    · refine parts_block (ps := ps ++ [mark, mark]) (qs := []) (ro := false) ?_ ?_ (by simp) (by simp; omega)
      · rw [hg _ (by omega) (by omega), List.append_nil]; exact e2
      · simp only [Hp.n_withLow, Hp.n_set]; omega
    · simp only [Hp.n_withLow, Hp.n_set]; omega
    · rw [hg b (by omega) (by omega), e3 b (by omega)]
      have n1 : ¬ b = h.n := by omega
      have n2 : ¬ b = h.n + 1 := by omega
      simp only [Hp.get_push, Hp.n_push, Hp.n_withLow, n1, n2, if_false, Hp.get_withLow]
    · simp only [Hp.low_withLow, Hp.low_set]; omega

theorem crd_ne {c d : Crd} (h : ¬ c = d) : ¬ (c.name = d.name ∧ c.suit = d.suit ∧ c.kind = d.kind ∧ c.cost = d.cost ∧ c.power = d.power ∧ c.health = d.health ∧ c.traits = d.traits ∧ c.token = d.token) := by
  intro ⟨a1, a2, a3, a4, a5, a6, a7, a8⟩
  cases c; cases d
  simp_all

set_option maxRecDepth 100000 in
set_option maxHeartbeats 4000000 in
theorem cardsame_spec (ho : orc 29 = none) (ho2 : orc 68 = none) (ho3 : orc 69 = none) {c d : Crd} {v u : AV} {ps qs : List Prt} {h : AH} (hp : Parts h v ps) (hq : Parts h u qs) :
    acall orc T 29 [.agg (c.cells v), .agg (d.cells u)] h = some (.bool (decide (ps = qs) && decide (c = d)), h) := by
  refine acall_sym ho tbl29 ?_
  obtain ⟨a, cc, rfl, _, _⟩ := id hp
  obtain ⟨a', cc', rfl, _, _⟩ := id hq
  have hext : ∀ (h2 : AH), h.n ≤ h2.n → (∀ b, b < h.n → h2.get b = h.get b) → acall orc T 68 [.slice a ps.length cc, .slice a' qs.length cc', .func (.func 69) [] []] h2 = some (.bool (decide (ps = qs)), h2) :=
    fun h2 h3 h4 => equal_spec ho2 ho3 (hp.mono h3 h4) (hq.mono h3 h4)
  have c1 := hext (((h.withLow h.n).push (.cells (c.cells (.slice a ps.length cc)) false)).push (.cells (d.cells (.slice a' qs.length cc')) false)) (by simp; omega) fun b hb => by
    have n1 : ¬ b = h.n := by omega
    have n2 : ¬ b = h.n + 1 := by omega
    simp only [Hp.get_push, Hp.n_push, Hp.n_withLow, n1, n2, if_false, Hp.get_withLow]
  clear hext
  generalize decide (ps = qs) = e at *
  dsimp only [List.length, List.replicate, List.append, List.cons_append, List.nil_append, Nat.reduceAdd, Nat.reduceSub, Crd.cells] at c1 ⊢
  by_cases hcd : c = d
  · subst hcd
    have n2 : decide (c = c) = true := by simp
    rw [n2]
    cases e <;> (repeat' first | (simp only [op_lenS, lenSV_str, op_lenV, lenV_slice, op_toInt, toIntV_int, op_iaddrS, RetK_inv, RetK_inv_exit, RetK_inv_ret, Nat.add_assoc, Nat.reduceEqDiff, Nat.reduceBEq, Nat.reduceBNe, Nat.le_min, Nat.le_add_right, Nat.min_self, Int.reduceBEq, Int.reduceBNe, Int.reduceLT, Int.reduceLE, Int.reduceEq, beq_self_eq_true, bne_self_eq_false, Bool.not_true, Bool.not_false, decide_true, decide_false, decide_eq_true_eq, Bool.and_eq_true, List.mapM_cons, List.mapM_nil, Option.bind_eq_bind, Option.pure_def, aeqK_agg, aeqK_scal, leavesK_nil, leavesK_cons, leafK_i, leafK_b, leafK_s, DrawK_nil, DrawK_cons, DrawK_guard, DResK_some, DGuardK_tt, DGuardK_ff, DGuardK_tf, DGuardK_ft, DGuardK_u, kept_load, Kept, KeptOne, closeOp, CO.quiet, CO.reads, CodeK_seq, CodeK_region, CodeK_skip, CodeK_ret, CodeK_exit, CodeK_cond, CodeK_block, CondK_true, CondK_false, RunK_cons, RunK_nil, RunK_guard, GuardK_tt, GuardK_ff, GuardK_tf, GuardK_ft, GuardK_u, ResK_some, RetK_nil, RetK_seq, RetK_seq_exit, RetK_seq_ret, RetK_block, RetK_block_ret, RetK_block_exit, RetK_block_exit_ne, op_mv, op_un, op_bin, op_load, loadV_ptr, op_faddr, faddrV_ptr, op_pick, pickV_true, pickV_false, pickV_bool, pickV_same, op_box, boxV_agg, op_call, op_build, op_ext, op_alloc, op_store, storeV_ptr, List.all_cons, List.all_nil, AV.one, AV.cells, Bool.and_self, Bool.and_true, Bool.true_and, put, CA.ev, List.set_cons_zero, List.set_cons_succ, List.getD_cons_zero, List.getD_cons_succ, abin, aint, aun, isShift, Option.map_some, Option.bind_some, List.map_cons, List.map_nil, Hp.n_withLow, Hp.n_push, Hp.n_set, Hp.low_withLow, Hp.low_push, Hp.low_set, Hp.get_push, Hp.get_set, Hp.get_withLow, readVar, readCell, readCells, writeCells, over, cut, fillA, Bool.false_eq_true, if_false, if_true, reduceIte, List.getElem?_cons_zero, List.getElem?_cons_succ, Nat.zero_add, Nat.add_zero, Nat.reduceAdd, Nat.reduceSub, Nat.reduceLT, Nat.reduceLeDiff, Nat.reduceEqDiff, List.length_cons, List.length_nil, List.take_succ_cons, List.take_zero, List.drop_zero, List.drop_succ_cons, List.cons_append, List.nil_append, List.append_nil, DoneK, resAll, resOne, AV.under, AV.unders, and_true, true_and, and_self, or_true, true_or, cond_true, cond_false, Nat.le_refl, Nat.add_eq_left, Nat.left_eq_add, Nat.add_right_cancel_iff, Nat.add_left_cancel_iff, c1, astr, *]) | (refine GuardK_split (fun hb => ?_) (fun hb => ?_)) | (refine CondK_split (fun hb => ?_) (fun hb => ?_)) | (refine CodeK_regionD _ ?_) | (refine DGuardK_split (fun hb => ?_) (fun hb => ?_)))
  · have n2 : decide (c = d) = false := by simp [hcd]
    have hne := crd_ne hcd
    rw [n2]
    cases e <;> (repeat' first | (simp only [op_lenS, lenSV_str, op_lenV, lenV_slice, op_toInt, toIntV_int, op_iaddrS, RetK_inv, RetK_inv_exit, RetK_inv_ret, Nat.add_assoc, Nat.reduceEqDiff, Nat.reduceBEq, Nat.reduceBNe, Nat.le_min, Nat.le_add_right, Nat.min_self, Int.reduceBEq, Int.reduceBNe, Int.reduceLT, Int.reduceLE, Int.reduceEq, beq_self_eq_true, bne_self_eq_false, Bool.not_true, Bool.not_false, decide_true, decide_false, decide_eq_true_eq, Bool.and_eq_true, List.mapM_cons, List.mapM_nil, Option.bind_eq_bind, Option.pure_def, aeqK_agg, aeqK_scal, leavesK_nil, leavesK_cons, leafK_i, leafK_b, leafK_s, DrawK_nil, DrawK_cons, DrawK_guard, DResK_some, DGuardK_tt, DGuardK_ff, DGuardK_tf, DGuardK_ft, DGuardK_u, kept_load, Kept, KeptOne, closeOp, CO.quiet, CO.reads, CodeK_seq, CodeK_region, CodeK_skip, CodeK_ret, CodeK_exit, CodeK_cond, CodeK_block, CondK_true, CondK_false, RunK_cons, RunK_nil, RunK_guard, GuardK_tt, GuardK_ff, GuardK_tf, GuardK_ft, GuardK_u, ResK_some, RetK_nil, RetK_seq, RetK_seq_exit, RetK_seq_ret, RetK_block, RetK_block_ret, RetK_block_exit, RetK_block_exit_ne, op_mv, op_un, op_bin, op_load, loadV_ptr, op_faddr, faddrV_ptr, op_pick, pickV_true, pickV_false, pickV_bool, pickV_same, op_box, boxV_agg, op_call, op_build, op_ext, op_alloc, op_store, storeV_ptr, List.all_cons, List.all_nil, AV.one, AV.cells, Bool.and_self, Bool.and_true, Bool.true_and, put, CA.ev, List.set_cons_zero, List.set_cons_succ, List.getD_cons_zero, List.getD_cons_succ, abin, aint, aun, isShift, Option.map_some, Option.bind_some, List.map_cons, List.map_nil, Hp.n_withLow, Hp.n_push, Hp.n_set, Hp.low_withLow, Hp.low_push, Hp.low_set, Hp.get_push, Hp.get_set, Hp.get_withLow, readVar, readCell, readCells, writeCells, over, cut, fillA, Bool.false_eq_true, if_false, if_true, reduceIte, List.getElem?_cons_zero, List.getElem?_cons_succ, Nat.zero_add, Nat.add_zero, Nat.reduceAdd, Nat.reduceSub, Nat.reduceLT, Nat.reduceLeDiff, Nat.reduceEqDiff, List.length_cons, List.length_nil, List.take_succ_cons, List.take_zero, List.drop_zero, List.drop_succ_cons, List.cons_append, List.nil_append, List.append_nil, DoneK, resAll, resOne, AV.under, AV.unders, and_true, true_and, and_self, or_true, true_or, cond_true, cond_false, Nat.le_refl, Nat.add_eq_left, Nat.left_eq_add, Nat.add_right_cancel_iff, Nat.add_left_cancel_iff, c1, astr, *]) | (refine GuardK_split (fun hb => ?_) (fun hb => ?_)) | (refine CondK_split (fun hb => ?_) (fun hb => ?_)) | (refine CodeK_regionD _ ?_) | (refine DGuardK_split (fun hb => ?_) (fun hb => ?_)))
    all_goals simp_all

set_option maxRecDepth 100000 in
set_option maxHeartbeats 4000000 in
theorem samecard_spec (ho : orc 30 = none) (ho2 : orc 70 = none) {c d : Crd} {v u : AV} {ps qs : List Prt} {h : AH} (hp : Parts h v ps) (hq : Parts h u qs) :
    acall orc T 30 [.agg (c.cells v), .agg (d.cells u)] h = some (.bool (decide (ps = qs) && decide (c = d)), h) := by
  refine acall_sym ho tbl30 ?_
  obtain ⟨a, cc, rfl, _, _⟩ := id hp
  obtain ⟨a', cc', rfl, _, _⟩ := id hq
  have hext : ∀ (h2 : AH), h.n ≤ h2.n → (∀ b, b < h.n → h2.get b = h.get b) → acall orc T 70 [.slice a ps.length cc, .slice a' qs.length cc'] h2 = some (.bool (decide (ps = qs)), h2) :=
    fun h2 h3 h4 => same_spec ho2 (hp.mono h3 h4) (hq.mono h3 h4)
  have c1 := hext (((h.withLow h.n).push (.cells (c.cells (.slice a ps.length cc)) false)).push (.cells (d.cells (.slice a' qs.length cc')) false)) (by simp; omega) fun b hb => by
    have n1 : ¬ b = h.n := by omega
    have n2 : ¬ b = h.n + 1 := by omega
    simp only [Hp.get_push, Hp.n_push, Hp.n_withLow, n1, n2, if_false, Hp.get_withLow]
  clear hext
  generalize decide (ps = qs) = e at *
  dsimp only [List.length, List.replicate, List.append, List.cons_append, List.nil_append, Nat.reduceAdd, Nat.reduceSub, Crd.cells] at c1 ⊢
  by_cases hcd : c = d
  · subst hcd
    have n2 : decide (c = c) = true := by simp
    rw [n2]
    cases e <;> (repeat' first | (simp only [op_lenS, lenSV_str, op_lenV, lenV_slice, op_toInt, toIntV_int, op_iaddrS, RetK_inv, RetK_inv_exit, RetK_inv_ret, Nat.add_assoc, Nat.reduceEqDiff, Nat.reduceBEq, Nat.reduceBNe, Nat.le_min, Nat.le_add_right, Nat.min_self, Int.reduceBEq, Int.reduceBNe, Int.reduceLT, Int.reduceLE, Int.reduceEq, beq_self_eq_true, bne_self_eq_false, Bool.not_true, Bool.not_false, decide_true, decide_false, decide_eq_true_eq, Bool.and_eq_true, List.mapM_cons, List.mapM_nil, Option.bind_eq_bind, Option.pure_def, aeqK_agg, aeqK_scal, leavesK_nil, leavesK_cons, leafK_i, leafK_b, leafK_s, DrawK_nil, DrawK_cons, DrawK_guard, DResK_some, DGuardK_tt, DGuardK_ff, DGuardK_tf, DGuardK_ft, DGuardK_u, kept_load, Kept, KeptOne, closeOp, CO.quiet, CO.reads, CodeK_seq, CodeK_region, CodeK_skip, CodeK_ret, CodeK_exit, CodeK_cond, CodeK_block, CondK_true, CondK_false, RunK_cons, RunK_nil, RunK_guard, GuardK_tt, GuardK_ff, GuardK_tf, GuardK_ft, GuardK_u, ResK_some, RetK_nil, RetK_seq, RetK_seq_exit, RetK_seq_ret, RetK_block, RetK_block_ret, RetK_block_exit, RetK_block_exit_ne, op_mv, op_un, op_bin, op_load, loadV_ptr, op_faddr, faddrV_ptr, op_pick, pickV_true, pickV_false, pickV_bool, pickV_same, op_box, boxV_agg, op_call, op_build, op_ext, op_alloc, op_store, storeV_ptr, List.all_cons, List.all_nil, AV.one, AV.cells, Bool.and_self, Bool.and_true, Bool.true_and, put, CA.ev, List.set_cons_zero, List.set_cons_succ, List.getD_cons_zero, List.getD_cons_succ, abin, aint, aun, isShift, Option.map_some, Option.bind_some, List.map_cons, List.map_nil, Hp.n_withLow, Hp.n_push, Hp.n_set, Hp.low_withLow, Hp.low_push, Hp.low_set, Hp.get_push, Hp.get_set, Hp.get_withLow, readVar, readCell, readCells, writeCells, over, cut, fillA, Bool.false_eq_true, if_false, if_true, reduceIte, List.getElem?_cons_zero, List.getElem?_cons_succ, Nat.zero_add, Nat.add_zero, Nat.reduceAdd, Nat.reduceSub, Nat.reduceLT, Nat.reduceLeDiff, Nat.reduceEqDiff, List.length_cons, List.length_nil, List.take_succ_cons, List.take_zero, List.drop_zero, List.drop_succ_cons, List.cons_append, List.nil_append, List.append_nil, DoneK, resAll, resOne, AV.under, AV.unders, and_true, true_and, and_self, or_true, true_or, cond_true, cond_false, Nat.le_refl, Nat.add_eq_left, Nat.left_eq_add, Nat.add_right_cancel_iff, Nat.add_left_cancel_iff, c1, astr, *]) | (refine GuardK_split (fun hb => ?_) (fun hb => ?_)) | (refine CondK_split (fun hb => ?_) (fun hb => ?_)) | (refine CodeK_regionD _ ?_) | (refine DGuardK_split (fun hb => ?_) (fun hb => ?_)))
  · have n2 : decide (c = d) = false := by simp [hcd]
    have hne := crd_ne hcd
    rw [n2]
    cases e <;> (repeat' first | (simp only [op_lenS, lenSV_str, op_lenV, lenV_slice, op_toInt, toIntV_int, op_iaddrS, RetK_inv, RetK_inv_exit, RetK_inv_ret, Nat.add_assoc, Nat.reduceEqDiff, Nat.reduceBEq, Nat.reduceBNe, Nat.le_min, Nat.le_add_right, Nat.min_self, Int.reduceBEq, Int.reduceBNe, Int.reduceLT, Int.reduceLE, Int.reduceEq, beq_self_eq_true, bne_self_eq_false, Bool.not_true, Bool.not_false, decide_true, decide_false, decide_eq_true_eq, Bool.and_eq_true, List.mapM_cons, List.mapM_nil, Option.bind_eq_bind, Option.pure_def, aeqK_agg, aeqK_scal, leavesK_nil, leavesK_cons, leafK_i, leafK_b, leafK_s, DrawK_nil, DrawK_cons, DrawK_guard, DResK_some, DGuardK_tt, DGuardK_ff, DGuardK_tf, DGuardK_ft, DGuardK_u, kept_load, Kept, KeptOne, closeOp, CO.quiet, CO.reads, CodeK_seq, CodeK_region, CodeK_skip, CodeK_ret, CodeK_exit, CodeK_cond, CodeK_block, CondK_true, CondK_false, RunK_cons, RunK_nil, RunK_guard, GuardK_tt, GuardK_ff, GuardK_tf, GuardK_ft, GuardK_u, ResK_some, RetK_nil, RetK_seq, RetK_seq_exit, RetK_seq_ret, RetK_block, RetK_block_ret, RetK_block_exit, RetK_block_exit_ne, op_mv, op_un, op_bin, op_load, loadV_ptr, op_faddr, faddrV_ptr, op_pick, pickV_true, pickV_false, pickV_bool, pickV_same, op_box, boxV_agg, op_call, op_build, op_ext, op_alloc, op_store, storeV_ptr, List.all_cons, List.all_nil, AV.one, AV.cells, Bool.and_self, Bool.and_true, Bool.true_and, put, CA.ev, List.set_cons_zero, List.set_cons_succ, List.getD_cons_zero, List.getD_cons_succ, abin, aint, aun, isShift, Option.map_some, Option.bind_some, List.map_cons, List.map_nil, Hp.n_withLow, Hp.n_push, Hp.n_set, Hp.low_withLow, Hp.low_push, Hp.low_set, Hp.get_push, Hp.get_set, Hp.get_withLow, readVar, readCell, readCells, writeCells, over, cut, fillA, Bool.false_eq_true, if_false, if_true, reduceIte, List.getElem?_cons_zero, List.getElem?_cons_succ, Nat.zero_add, Nat.add_zero, Nat.reduceAdd, Nat.reduceSub, Nat.reduceLT, Nat.reduceLeDiff, Nat.reduceEqDiff, List.length_cons, List.length_nil, List.take_succ_cons, List.take_zero, List.drop_zero, List.drop_succ_cons, List.cons_append, List.nil_append, List.append_nil, DoneK, resAll, resOne, AV.under, AV.unders, and_true, true_and, and_self, or_true, true_or, cond_true, cond_false, Nat.le_refl, Nat.add_eq_left, Nat.left_eq_add, Nat.add_right_cancel_iff, Nat.add_left_cancel_iff, c1, astr, *]) | (refine GuardK_split (fun hb => ?_) (fun hb => ?_)) | (refine CondK_split (fun hb => ?_) (fun hb => ?_)) | (refine CodeK_regionD _ ?_) | (refine DGuardK_split (fun hb => ?_) (fun hb => ?_)))
    all_goals simp_all

theorem kept_ok (ps : List Prt) : decide (ps ++ [mark, mark] = ps ++ [mark, mark]) = true := by simp

set_option maxRecDepth 100000 in
set_option maxHeartbeats 8000000 in
theorem law_spec (ho : ∀ f, f ∈ [5, 28, 67, 29, 68, 69, 30, 70, 31, 71] → orc f = none) {c d : Crd} {v u : AV} {ps qs : List Prt} {h : AH} (hp : Parts h v ps) (hq : Parts h u qs) (hl : (ps.length + 2) * 40 ≤ 140737488355328) (hl2 : (qs.length + 2) * 40 ≤ 140737488355328) :
    acall orc T 5 [.agg (c.cells v), .agg (d.cells u)] h = some (.bool true, h) := by
  refine acall_sym (ho 5 (by simp)) tbl5 ?_
  obtain ⟨a, cc, rfl, _, _⟩ := id hp
  obtain ⟨a', cc', rfl, _, _⟩ := id hq
  dsimp only [List.length, List.replicate, List.append, List.cons_append, List.nil_append, Nat.reduceAdd, Nat.reduceSub, Crd.cells]
  repeat' first | (simp only [op_lenS, lenSV_str, op_lenV, lenV_slice, op_toInt, toIntV_int, op_iaddrS, RetK_inv, RetK_inv_exit, RetK_inv_ret, Nat.add_assoc, Nat.reduceEqDiff, Nat.reduceBEq, Nat.reduceBNe, Nat.le_min, Nat.le_add_right, Nat.min_self, Int.reduceBEq, Int.reduceBNe, Int.reduceLT, Int.reduceLE, Int.reduceEq, beq_self_eq_true, bne_self_eq_false, Bool.not_true, Bool.not_false, decide_true, decide_false, decide_eq_true_eq, Bool.and_eq_true, List.mapM_cons, List.mapM_nil, Option.bind_eq_bind, Option.pure_def, aeqK_agg, aeqK_scal, leavesK_nil, leavesK_cons, leafK_i, leafK_b, leafK_s, DrawK_nil, DrawK_cons, DrawK_guard, DResK_some, DGuardK_tt, DGuardK_ff, DGuardK_tf, DGuardK_ft, DGuardK_u, kept_load, Kept, KeptOne, closeOp, CO.quiet, CO.reads, CodeK_seq, CodeK_region, CodeK_skip, CodeK_ret, CodeK_exit, CodeK_cond, CodeK_block, CondK_true, CondK_false, RunK_cons, RunK_nil, RunK_guard, GuardK_tt, GuardK_ff, GuardK_tf, GuardK_ft, GuardK_u, ResK_some, RetK_nil, RetK_seq, RetK_seq_exit, RetK_seq_ret, RetK_block, RetK_block_ret, RetK_block_exit, RetK_block_exit_ne, op_mv, op_un, op_bin, op_load, loadV_ptr, op_faddr, faddrV_ptr, op_pick, pickV_true, pickV_false, pickV_bool, pickV_same, op_box, boxV_agg, op_call, op_build, op_ext, op_alloc, op_store, storeV_ptr, List.all_cons, List.all_nil, AV.one, AV.cells, Bool.and_self, Bool.and_true, Bool.true_and, put, CA.ev, List.set_cons_zero, List.set_cons_succ, List.getD_cons_zero, List.getD_cons_succ, abin, aint, aun, isShift, Option.map_some, Option.bind_some, List.map_cons, List.map_nil, Hp.n_withLow, Hp.n_push, Hp.n_set, Hp.low_withLow, Hp.low_push, Hp.low_set, Hp.get_push, Hp.get_set, Hp.get_withLow, readVar, readCell, readCells, writeCells, over, cut, fillA, Bool.false_eq_true, if_false, if_true, reduceIte, List.getElem?_cons_zero, List.getElem?_cons_succ, Nat.zero_add, Nat.add_zero, Nat.reduceAdd, Nat.reduceSub, Nat.reduceLT, Nat.reduceLeDiff, Nat.reduceEqDiff, List.length_cons, List.length_nil, List.take_succ_cons, List.take_zero, List.drop_zero, List.drop_succ_cons, List.cons_append, List.nil_append, List.append_nil, DoneK, resAll, resOne, AV.under, AV.unders, and_true, true_and, and_self, or_true, true_or, cond_true, cond_false, Nat.le_refl, Nat.add_eq_left, Nat.left_eq_add, Nat.add_right_cancel_iff, Nat.add_left_cancel_iff, *]) | (refine GuardK_split (fun hb => ?_) (fun hb => ?_)) | (refine CondK_split (fun hb => ?_) (fun hb => ?_)) | (refine CodeK_regionD _ ?_) | (refine DGuardK_split (fun hb => ?_) (fun hb => ?_))
  refine ResK_ex (lentcard_spec (ho 28 (by simp)) (ho 67 (by simp)) (c := c) (ps := ps) (hp.mono (by simp; omega) fun b hb => ?_) (by omega)) fun v1 h1 hL => ?_
  · have n1 : ¬ b = h.n := by omega
    have n2 : ¬ b = h.n + 1 := by omega
    simp only [Hp.get_push, Hp.n_push, Hp.n_withLow, n1, n2, if_false, Hp.get_withLow]
  · obtain ⟨s1, s2, rfl, p1, p2, e1, e2, e3⟩ := hL
    simp only [Hp.n_push, Hp.n_withLow, Hp.low_push, Hp.low_withLow, Nat.add_assoc, Nat.reduceAdd] at e1 e2 e3
    obtain ⟨a1, k1, rfl, _, _⟩ := id p1
    obtain ⟨a2, k2, rfl, _, _⟩ := id p2
    have q0 : h1.get h.n = some (.cells (c.cells (.slice a ps.length cc)) false) := by
      rw [e2 h.n (by omega)]
      have n1 : ¬ h.n = h.n + 1 := by omega
      simp only [Hp.get_push, Hp.n_push, Hp.n_withLow, n1, if_false, if_true, Crd.cells]
    have q1 : h1.get (h.n + 1) = some (.cells (d.cells (.slice a' qs.length cc')) false) := by
      rw [e2 (h.n + 1) (by omega)]
      simp only [Hp.get_push, Hp.n_push, Hp.n_withLow, if_true, Crd.cells]
    have e2' : ∀ b, b < h.n → h1.get b = h.get b := fun b hb => by
      have n1 : ¬ b = h.n := by omega
      have n2 : ¬ b = h.n + 1 := by omega
      rw [e2 b (by omega)]
      simp only [Hp.get_push, Hp.n_push, Hp.n_withLow, n1, n2, if_false, Hp.get_withLow]
    clear e2
    have q0' := q0
    have q1' := q1
    dsimp only [Crd.cells] at q0' q1'
    have n1 : ¬ h.n + 1 = h1.n := by omega
    have n2 : ¬ h.n = h1.n := by omega
    repeat' first | (simp only [op_lenS, lenSV_str, op_lenV, lenV_slice, op_toInt, toIntV_int, op_iaddrS, RetK_inv, RetK_inv_exit, RetK_inv_ret, Nat.add_assoc, Nat.reduceEqDiff, Nat.reduceBEq, Nat.reduceBNe, Nat.le_min, Nat.le_add_right, Nat.min_self, Int.reduceBEq, Int.reduceBNe, Int.reduceLT, Int.reduceLE, Int.reduceEq, beq_self_eq_true, bne_self_eq_false, Bool.not_true, Bool.not_false, decide_true, decide_false, decide_eq_true_eq, Bool.and_eq_true, List.mapM_cons, List.mapM_nil, Option.bind_eq_bind, Option.pure_def, aeqK_agg, aeqK_scal, leavesK_nil, leavesK_cons, leafK_i, leafK_b, leafK_s, DrawK_nil, DrawK_cons, DrawK_guard, DResK_some, DGuardK_tt, DGuardK_ff, DGuardK_tf, DGuardK_ft, DGuardK_u, kept_load, Kept, KeptOne, closeOp, CO.quiet, CO.reads, CodeK_seq, CodeK_region, CodeK_skip, CodeK_ret, CodeK_exit, CodeK_cond, CodeK_block, CondK_true, CondK_false, RunK_cons, RunK_nil, RunK_guard, GuardK_tt, GuardK_ff, GuardK_tf, GuardK_ft, GuardK_u, ResK_some, RetK_nil, RetK_seq, RetK_seq_exit, RetK_seq_ret, RetK_block, RetK_block_ret, RetK_block_exit, RetK_block_exit_ne, op_mv, op_un, op_bin, op_load, loadV_ptr, op_faddr, faddrV_ptr, op_pick, pickV_true, pickV_false, pickV_bool, pickV_same, op_box, boxV_agg, op_call, op_build, op_ext, op_alloc, op_store, storeV_ptr, List.all_cons, List.all_nil, AV.one, AV.cells, Bool.and_self, Bool.and_true, Bool.true_and, put, CA.ev, List.set_cons_zero, List.set_cons_succ, List.getD_cons_zero, List.getD_cons_succ, abin, aint, aun, isShift, Option.map_some, Option.bind_some, List.map_cons, List.map_nil, Hp.n_withLow, Hp.n_push, Hp.n_set, Hp.low_withLow, Hp.low_push, Hp.low_set, Hp.get_push, Hp.get_set, Hp.get_withLow, readVar, readCell, readCells, writeCells, over, cut, fillA, Bool.false_eq_true, if_false, if_true, reduceIte, List.getElem?_cons_zero, List.getElem?_cons_succ, Nat.zero_add, Nat.add_zero, Nat.reduceAdd, Nat.reduceSub, Nat.reduceLT, Nat.reduceLeDiff, Nat.reduceEqDiff, List.length_cons, List.length_nil, List.take_succ_cons, List.take_zero, List.drop_zero, List.drop_succ_cons, List.cons_append, List.nil_append, List.append_nil, DoneK, resAll, resOne, AV.under, AV.unders, and_true, true_and, and_self, or_true, true_or, cond_true, cond_false, Nat.le_refl, Nat.add_eq_left, Nat.left_eq_add, Nat.add_right_cancel_iff, Nat.add_left_cancel_iff, Crd.cells, q0', q1', n1, n2, *]) | (refine GuardK_split (fun hb => ?_) (fun hb => ?_)) | (refine CondK_split (fun hb => ?_) (fun hb => ?_)) | (refine CodeK_regionD _ ?_) | (refine DGuardK_split (fun hb => ?_) (fun hb => ?_))
    refine ResK_ex (lentcard_spec (ho 28 (by simp)) (ho 67 (by simp)) (c := d) (ps := qs) (hq.mono (by simp; omega) fun b hb => ?_) (by omega)) fun v2 h2 hL => ?_
    · rw [Hp.get_set_ne _ _ _ _ (by omega), Hp.get_push_ne _ _ _ (by omega), e2' b hb]
    · obtain ⟨s3, s4, rfl, p3, p4, f1, f2, f3⟩ := hL
      obtain ⟨a3, k3, rfl, _, _⟩ := id p3
      obtain ⟨a4, k4, rfl, _, _⟩ := id p4
      simp only [Hp.n_set, Hp.n_push, Hp.low_set, Hp.low_push] at f1 f2 f3
      have r0 : h2.get h.n = some (.cells (c.cells (.slice a ps.length cc)) false) := by
        rw [f2 h.n (by omega), Hp.get_set_ne _ _ _ _ (by omega), Hp.get_push_ne _ _ _ (by omega), q0]
      have r1 : h2.get (h.n + 1) = some (.cells (d.cells (.slice a' qs.length cc')) false) := by
        rw [f2 (h.n + 1) (by omega), Hp.get_set_ne _ _ _ _ (by omega), Hp.get_push_ne _ _ _ (by omega), q1]
      have r2 : h2.get h1.n = some (.cells (c.cells (.slice a1 ps.length k1)) false) := by
        rw [f2 h1.n (by omega), Hp.get_set_self]
        rfl
      have old2 : ∀ b, b < h1.n → h2.get b = h1.get b := fun b hb => by
        rw [f2 b (by omega), Hp.get_set_ne _ _ _ _ (by omega), Hp.get_push_ne _ _ _ (by omega)]
      clear f2
      simp only [op_lenS, lenSV_str, op_lenV, lenV_slice, op_toInt, toIntV_int, op_iaddrS, RetK_inv, RetK_inv_exit, RetK_inv_ret, Nat.add_assoc, Nat.reduceEqDiff, Nat.reduceBEq, Nat.reduceBNe, Nat.le_min, Nat.le_add_right, Nat.min_self, Int.reduceBEq, Int.reduceBNe, Int.reduceLT, Int.reduceLE, Int.reduceEq, beq_self_eq_true, bne_self_eq_false, Bool.not_true, Bool.not_false, decide_true, decide_false, decide_eq_true_eq, Bool.and_eq_true, List.mapM_cons, List.mapM_nil, Option.bind_eq_bind, Option.pure_def, aeqK_agg, aeqK_scal, leavesK_nil, leavesK_cons, leafK_i, leafK_b, leafK_s, DrawK_nil, DrawK_cons, DrawK_guard, DResK_some, DGuardK_tt, DGuardK_ff, DGuardK_tf, DGuardK_ft, DGuardK_u, kept_load, Kept, KeptOne, closeOp, CO.quiet, CO.reads, CodeK_seq, CodeK_region, CodeK_skip, CodeK_ret, CodeK_exit, CodeK_cond, CodeK_block, CondK_true, CondK_false, RunK_cons, RunK_nil, RunK_guard, GuardK_tt, GuardK_ff, GuardK_tf, GuardK_ft, GuardK_u, ResK_some, RetK_nil, RetK_seq, RetK_seq_exit, RetK_seq_ret, RetK_block, RetK_block_ret, RetK_block_exit, RetK_block_exit_ne, op_mv, op_un, op_bin, op_load, loadV_ptr, op_faddr, faddrV_ptr, op_pick, pickV_true, pickV_false, pickV_bool, pickV_same, op_box, boxV_agg, op_call, op_build, op_ext, op_alloc, op_store, storeV_ptr, List.all_cons, List.all_nil, AV.one, AV.cells, Bool.and_self, Bool.and_true, Bool.true_and, put, CA.ev, List.set_cons_zero, List.set_cons_succ, List.getD_cons_zero, List.getD_cons_succ, abin, aint, aun, isShift, Option.map_some, Option.bind_some, List.map_cons, List.map_nil, Hp.n_withLow, Hp.n_push, Hp.n_set, Hp.low_withLow, Hp.low_push, Hp.low_set, Hp.get_push, Hp.get_set, Hp.get_withLow, readVar, readCell, readCells, writeCells, over, cut, fillA, Bool.false_eq_true, if_false, if_true, reduceIte, List.getElem?_cons_zero, List.getElem?_cons_succ, Nat.zero_add, Nat.add_zero, Nat.reduceAdd, Nat.reduceSub, Nat.reduceLT, Nat.reduceLeDiff, Nat.reduceEqDiff, List.length_cons, List.length_nil, List.take_succ_cons, List.take_zero, List.drop_zero, List.drop_succ_cons, List.cons_append, List.nil_append, List.append_nil, DoneK, resAll, resOne, AV.under, AV.unders, and_true, true_and, and_self, or_true, true_or, cond_true, cond_false, Nat.le_refl, Nat.add_eq_left, Nat.left_eq_add, Nat.add_right_cancel_iff, Nat.add_left_cancel_iff, Crd.cells]
      refine CodeK_heap (fun F => F.get h.n = some (.cells (c.cells (.slice a ps.length cc)) false) ∧ F.get (h.n + 1) = some (.cells (d.cells (.slice a' qs.length cc')) false) ∧
        F.get h1.n = some (.cells (c.cells (.slice a1 ps.length k1)) false) ∧ F.get h2.n = some (.cells (d.cells (.slice a3 qs.length k3)) false) ∧ h2.n ≤ F.n ∧ (∀ b, b < h2.n → F.get b = h2.get b) ∧ h.n ≤ F.low) ?_ fun F hF => ?_
      · have m1 : ∀ b, b < h2.n → ∀ x y, ((h2.push x).set h2.n y).get b = h2.get b := fun b hb x y => by
          rw [Hp.get_set_ne _ _ _ _ (by omega), Hp.get_push_ne _ _ _ (by omega)]
        refine ⟨?_, ?_, ?_, ?_, ?_, fun b hb => m1 b hb _ _, ?_⟩
        · rw [m1 _ (by omega)]; exact r0
        · rw [m1 _ (by omega)]; exact r1
        · rw [m1 _ (by omega)]; exact r2
        · rw [Hp.get_set_self]; rfl
        · simp
        · simp only [Hp.low_set, Hp.low_push]; omega
      · obtain ⟨t0, t1, t2, t3, t4, t5, t6⟩ := hF
        have P1 := p1.mono (h' := F) (by omega) fun b hb => by rw [t5 b (by omega), old2 b hb]
        have P2 := p2.mono (h' := F) (by omega) fun b hb => by rw [t5 b (by omega), old2 b hb]
        have P3 := p3.mono (h' := F) t4 t5
        have P4 := p4.mono (h' := F) t4 t5
        have P5 := hp.mono (h' := F) (by omega) fun b hb => by rw [t5 b (by omega), old2 b (by omega), e2' b hb]
        have P6 := hq.mono (h' := F) (by omega) fun b hb => by rw [t5 b (by omega), old2 b (by omega), e2' b hb]
        have c1 := cardsame_spec (ho 29 (by simp)) (ho 68 (by simp)) (ho 69 (by simp)) (c := c) (d := d) P1 P3
        have c2 := samecard_spec (ho 30 (by simp)) (ho 70 (by simp)) (c := c) (d := d) P5 P6
        have c3 := cardsame_spec (ho 29 (by simp)) (ho 68 (by simp)) (ho 69 (by simp)) (c := c) (d := c) P1 P1
        have c4 := kept_spec (ho 31 (by simp)) (ho 70 (by simp)) (ho 71 (by simp)) P2 P5 hl
        have c5 := kept_spec (ho 31 (by simp)) (ho 70 (by simp)) (ho 71 (by simp)) P4 P6 hl2
        rw [show (decide (ps = ps) && decide (c = c)) = true by simp] at c3
        rw [show decide (ps ++ [mark, mark] = ps ++ [mark, mark]) = true by simp] at c4
        rw [show decide (qs ++ [mark, mark] = qs ++ [mark, mark]) = true by simp] at c5
        generalize (decide (ps = qs) && decide (c = d)) = e at c1 c2
        dsimp only [Crd.cells] at t0 t1 t2 t3 c1 c2 c3
        clear p1 p2 p3 p4 q0 q1 q0' q1' r0 r1 r2 P1 P2 P3 P4 P5 P6 hp hq
        refine CodeK_regionD _ ?_
        repeat' first | (simp only [op_lenS, lenSV_str, op_lenV, lenV_slice, op_toInt, toIntV_int, op_iaddrS, RetK_inv, RetK_inv_exit, RetK_inv_ret, Nat.add_assoc, Nat.reduceEqDiff, Nat.reduceBEq, Nat.reduceBNe, Nat.le_min, Nat.le_add_right, Nat.min_self, Int.reduceBEq, Int.reduceBNe, Int.reduceLT, Int.reduceLE, Int.reduceEq, beq_self_eq_true, bne_self_eq_false, Bool.not_true, Bool.not_false, decide_true, decide_false, decide_eq_true_eq, Bool.and_eq_true, List.mapM_cons, List.mapM_nil, Option.bind_eq_bind, Option.pure_def, aeqK_agg, aeqK_scal, leavesK_nil, leavesK_cons, leafK_i, leafK_b, leafK_s, DrawK_nil, DrawK_cons, DrawK_guard, DResK_some, DGuardK_tt, DGuardK_ff, DGuardK_tf, DGuardK_ft, DGuardK_u, kept_load, Kept, KeptOne, closeOp, CO.quiet, CO.reads, CodeK_seq, CodeK_region, CodeK_skip, CodeK_ret, CodeK_exit, CodeK_cond, CodeK_block, CondK_true, CondK_false, RunK_cons, RunK_nil, RunK_guard, GuardK_tt, GuardK_ff, GuardK_tf, GuardK_ft, GuardK_u, ResK_some, RetK_nil, RetK_seq, RetK_seq_exit, RetK_seq_ret, RetK_block, RetK_block_ret, RetK_block_exit, RetK_block_exit_ne, op_mv, op_un, op_bin, op_load, loadV_ptr, op_faddr, faddrV_ptr, op_pick, pickV_true, pickV_false, pickV_bool, pickV_same, op_box, boxV_agg, op_call, op_build, op_ext, op_alloc, op_store, storeV_ptr, List.all_cons, List.all_nil, AV.one, AV.cells, Bool.and_self, Bool.and_true, Bool.true_and, put, CA.ev, List.set_cons_zero, List.set_cons_succ, List.getD_cons_zero, List.getD_cons_succ, abin, aint, aun, isShift, Option.map_some, Option.bind_some, List.map_cons, List.map_nil, Hp.n_withLow, Hp.n_push, Hp.n_set, Hp.low_withLow, Hp.low_push, Hp.low_set, Hp.get_push, Hp.get_set, Hp.get_withLow, readVar, readCell, readCells, writeCells, over, cut, fillA, Bool.false_eq_true, if_false, if_true, reduceIte, List.getElem?_cons_zero, List.getElem?_cons_succ, Nat.zero_add, Nat.add_zero, Nat.reduceAdd, Nat.reduceSub, Nat.reduceLT, Nat.reduceLeDiff, Nat.reduceEqDiff, List.length_cons, List.length_nil, List.take_succ_cons, List.take_zero, List.drop_zero, List.drop_succ_cons, List.cons_append, List.nil_append, List.append_nil, DoneK, resAll, resOne, AV.under, AV.unders, and_true, true_and, and_self, or_true, true_or, cond_true, cond_false, Nat.le_refl, Nat.add_eq_left, Nat.left_eq_add, Nat.add_right_cancel_iff, Nat.add_left_cancel_iff, t0, t1, t2, t3, c1, c2, c3, c4, c5, *]) | (refine GuardK_split (fun hb => ?_) (fun hb => ?_)) | (refine CondK_split (fun hb => ?_) (fun hb => ?_)) | (refine CodeK_regionD _ ?_) | (refine DGuardK_split (fun hb => ?_) (fun hb => ?_))
end Go.Proofs.Cards
