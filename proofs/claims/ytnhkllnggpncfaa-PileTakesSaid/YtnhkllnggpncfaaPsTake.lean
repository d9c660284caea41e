/- The reference's drawing, cutting, putting under, taking out, dealing. -/
import Derived.Test.YtnhkllnggpncfaaPsLaw
namespace Go.Proofs.Po
open Go Go.Fs
set_option linter.unusedSimpArgs false
set_option linter.unusedVariables false
variable {orc : Orc}

def drawV : List Int → Int
  | [] => 0
  | x :: _ => x
def drawB : List Int → Bool
  | [] => false
  | _ :: _ => true

/-- What drawing hands back. -/
def DrawR (h : AH) (xs : List Int) (v1 : AV) (h1 : AH) : Prop := ∃ v2, v1 = .tuple [.int .i64 (drawV xs), v2, .bool (drawB xs)] ∧ Fresh h.n h1 v2 xs.tail ∧ Ext h h1
theorem draw_any (ho : orc 38 = none) {h : AH} {v : AV} {xs : List Int} (hr : IntRow h v xs) (hl : xs.length * 8 ≤ 140737488355328) : ∃ v1 h1, acall orc T 38 [v] h = some (v1, h1) ∧ DrawR h xs v1 h1 := by
  cases xs with
  | nil => exact ⟨_, _, draw_nil ho hr, _, rfl, .inl ⟨rfl, rfl⟩, Ext.refl _⟩
  | cons x xs => exact draw_cons ho hr (by simpa using hl)

set_option maxRecDepth 100000 in
theorem refdraw_any (ho : orc 43 = none) (ho2 : orc 64 = none) {h : AH} {v : AV} {xs : List Int} (hr : IntRow h v xs) (hl : xs.length * 8 ≤ 140737488355328) : ∃ v1 h1, acall orc T 43 [v] h = some (v1, h1) ∧ DrawR h xs v1 h1 := by
  cases xs with
  | nil =>
    refine ⟨_, _, ?_, _, rfl, .inl ⟨rfl, rfl⟩, Ext.refl _⟩
    refine acall_sym ho tbl43 ?_
    have hlen := hr.len
    have l1 : (((0 : Nat) : Int) == 0) = true := by decide
    simp only [drawV, drawB]
    dsimp only [List.length, List.replicate, List.append, List.cons_append, List.nil_append, Nat.reduceAdd, Nat.reduceSub]
    repeat' first | (simp only [op_lenS, lenSV_str, op_lenV, lenV_slice, op_toInt, toIntV_int, op_iaddrS, RetK_inv, RetK_inv_exit, RetK_inv_ret, Nat.add_assoc, Nat.reduceEqDiff, Nat.reduceBEq, Nat.reduceBNe, Nat.le_min, Nat.le_add_right, Nat.min_self, Int.reduceBEq, Int.reduceBNe, Int.reduceLT, Int.reduceLE, Int.reduceEq, beq_self_eq_true, bne_self_eq_false, Bool.not_true, Bool.not_false, decide_true, decide_false, decide_eq_true_eq, Bool.and_eq_true, List.mapM_cons, List.mapM_nil, Option.bind_eq_bind, Option.pure_def, aeqK_agg, aeqK_scal, leavesK_nil, leavesK_cons, leafK_i, leafK_b, leafK_s, DrawK_nil, DrawK_cons, DrawK_guard, DResK_some, DGuardK_tt, DGuardK_ff, DGuardK_tf, DGuardK_ft, DGuardK_u, kept_load, Kept, KeptOne, closeOp, CO.quiet, CO.reads, CodeK_seq, CodeK_region, CodeK_skip, CodeK_ret, CodeK_exit, CodeK_cond, CodeK_block, CondK_true, CondK_false, RunK_cons, RunK_nil, RunK_guard, GuardK_tt, GuardK_ff, GuardK_tf, GuardK_ft, GuardK_u, ResK_some, RetK_nil, RetK_seq, RetK_seq_exit, RetK_seq_ret, RetK_block, RetK_block_ret, RetK_block_exit, RetK_block_exit_ne, op_mv, op_un, op_bin, op_load, loadV_ptr, op_faddr, faddrV_ptr, op_pick, pickV_true, pickV_false, pickV_bool, pickV_same, op_box, boxV_agg, op_call, op_build, op_ext, op_alloc, op_store, storeV_ptr, List.all_cons, List.all_nil, AV.one, AV.cells, Bool.and_self, Bool.and_true, Bool.true_and, put, CA.ev, List.set_cons_zero, List.set_cons_succ, List.getD_cons_zero, List.getD_cons_succ, abin, aint, aun, isShift, Option.map_some, Option.bind_some, List.map_cons, List.map_nil, Hp.n_withLow, Hp.n_push, Hp.n_set, Hp.low_withLow, Hp.low_push, Hp.low_set, Hp.get_push, Hp.get_set, Hp.get_withLow, readVar, readCell, readCells, writeCells, cut, fillA, Bool.false_eq_true, if_false, if_true, reduceIte, List.getElem?_cons_zero, List.getElem?_cons_succ, Nat.zero_add, Nat.add_zero, Nat.reduceAdd, Nat.reduceSub, Nat.reduceLT, Nat.reduceLeDiff, Nat.reduceEqDiff, List.length_cons, List.length_nil, List.take_succ_cons, List.take_zero, List.drop_zero, List.drop_succ_cons, List.cons_append, List.nil_append, List.append_nil, DoneK, resAll, resOne, AV.under, AV.unders, and_true, true_and, and_self, or_true, true_or, cond_true, cond_false, Nat.le_refl, Nat.add_eq_left, Nat.left_eq_add, Nat.add_right_cancel_iff, Nat.add_left_cancel_iff, hlen, l1, *]) | (refine GuardK_split (fun hb => ?_) (fun hb => ?_)) | (refine CondK_split (fun hb => ?_) (fun hb => ?_)) | (refine CodeK_regionD _ ?_) | (refine DGuardK_split (fun hb => ?_) (fun hb => ?_))
  | cons x xs =>
    refine acall_facts (R := DrawR h (x :: xs)) ho tbl43 ?_
    have hlen := hr.len
    have l1 : (((xs.length + 1 : Nat) : Int) == 0) = false := by simp; omega
    obtain ⟨b, o, cells, ro, ha, g1, g2, g3⟩ := hr.at (i := 0) (x := x) rfl
    obtain ⟨v3, s1, hr3⟩ := slc_lo hr (k := 1) (by simp)
    have ha' : ∀ (k : IntKind) (hy : AH), iaddrV 1 v (.int k 0) hy = some (.ptr (some (b, o)), hy) := fun k hy => ha k hy
    have s1' : ∀ (tm : List AV) (hx : AH), slcVV tm 1 v (some (.c (.int .i64 1))) none none hx = some (v3, hx) := fun tm hx => s1 tm _ hx rfl
    dsimp only [List.length, List.replicate, List.append, List.cons_append, List.nil_append, Nat.reduceAdd, Nat.reduceSub]
    repeat' first | (simp only [op_lenS, lenSV_str, op_lenV, lenV_slice, op_toInt, toIntV_int, op_iaddrS, RetK_inv, RetK_inv_exit, RetK_inv_ret, Nat.add_assoc, Nat.reduceEqDiff, Nat.reduceBEq, Nat.reduceBNe, Nat.le_min, Nat.le_add_right, Nat.min_self, Int.reduceBEq, Int.reduceBNe, Int.reduceLT, Int.reduceLE, Int.reduceEq, beq_self_eq_true, bne_self_eq_false, Bool.not_true, Bool.not_false, decide_true, decide_false, decide_eq_true_eq, Bool.and_eq_true, List.mapM_cons, List.mapM_nil, Option.bind_eq_bind, Option.pure_def, aeqK_agg, aeqK_scal, leavesK_nil, leavesK_cons, leafK_i, leafK_b, leafK_s, DrawK_nil, DrawK_cons, DrawK_guard, DResK_some, DGuardK_tt, DGuardK_ff, DGuardK_tf, DGuardK_ft, DGuardK_u, kept_load, Kept, KeptOne, closeOp, CO.quiet, CO.reads, CodeK_seq, CodeK_region, CodeK_skip, CodeK_ret, CodeK_exit, CodeK_cond, CodeK_block, CondK_true, CondK_false, RunK_cons, RunK_nil, RunK_guard, GuardK_tt, GuardK_ff, GuardK_tf, GuardK_ft, GuardK_u, ResK_some, RetK_nil, RetK_seq, RetK_seq_exit, RetK_seq_ret, RetK_block, RetK_block_ret, RetK_block_exit, RetK_block_exit_ne, op_mv, op_un, op_bin, op_load, loadV_ptr, op_faddr, faddrV_ptr, op_pick, pickV_true, pickV_false, pickV_bool, pickV_same, op_box, boxV_agg, op_call, op_build, op_ext, op_alloc, op_store, storeV_ptr, List.all_cons, List.all_nil, AV.one, AV.cells, Bool.and_self, Bool.and_true, Bool.true_and, put, CA.ev, List.set_cons_zero, List.set_cons_succ, List.getD_cons_zero, List.getD_cons_succ, abin, aint, aun, isShift, Option.map_some, Option.bind_some, List.map_cons, List.map_nil, Hp.n_withLow, Hp.n_push, Hp.n_set, Hp.low_withLow, Hp.low_push, Hp.low_set, Hp.get_push, Hp.get_set, Hp.get_withLow, readVar, readCell, readCells, writeCells, cut, fillA, Bool.false_eq_true, if_false, if_true, reduceIte, List.getElem?_cons_zero, List.getElem?_cons_succ, Nat.zero_add, Nat.add_zero, Nat.reduceAdd, Nat.reduceSub, Nat.reduceLT, Nat.reduceLeDiff, Nat.reduceEqDiff, List.length_cons, List.length_nil, List.take_succ_cons, List.take_zero, List.drop_zero, List.drop_succ_cons, List.cons_append, List.nil_append, List.append_nil, DoneK, resAll, resOne, AV.under, AV.unders, and_true, true_and, and_self, or_true, true_or, cond_true, cond_false, Nat.le_refl, Nat.add_eq_left, Nat.left_eq_add, Nat.add_right_cancel_iff, Nat.add_left_cancel_iff, hlen, l1, ha', g1, g2, op_slcV, s1', *]) | (refine GuardK_split (fun hb => ?_) (fun hb => ?_)) | (refine CondK_split (fun hb => ?_) (fun hb => ?_)) | (refine CodeK_regionD _ ?_) | (refine DGuardK_split (fun hb => ?_) (fun hb => ?_))
    refine DResK_ex (copied_spec ho2 (hr3.ext (Ext.low h h.n)) (by simp at hl ⊢; omega)) fun v2 h2 hL => ?_
    obtain ⟨hf, he⟩ := hL
    simp only [Hp.n_withLow, List.drop_succ_cons, List.drop_zero] at hf
    have he' := (Ext.low h h.n).trans he
    have g1' : h2.get b = some (.cells cells ro) := by rw [he'.2 b g3, g1]
    repeat' first | (simp only [op_lenS, lenSV_str, op_lenV, lenV_slice, op_toInt, toIntV_int, op_iaddrS, RetK_inv, RetK_inv_exit, RetK_inv_ret, Nat.add_assoc, Nat.reduceEqDiff, Nat.reduceBEq, Nat.reduceBNe, Nat.le_min, Nat.le_add_right, Nat.min_self, Int.reduceBEq, Int.reduceBNe, Int.reduceLT, Int.reduceLE, Int.reduceEq, beq_self_eq_true, bne_self_eq_false, Bool.not_true, Bool.not_false, decide_true, decide_false, decide_eq_true_eq, Bool.and_eq_true, List.mapM_cons, List.mapM_nil, Option.bind_eq_bind, Option.pure_def, aeqK_agg, aeqK_scal, leavesK_nil, leavesK_cons, leafK_i, leafK_b, leafK_s, DrawK_nil, DrawK_cons, DrawK_guard, DResK_some, DGuardK_tt, DGuardK_ff, DGuardK_tf, DGuardK_ft, DGuardK_u, kept_load, Kept, KeptOne, closeOp, CO.quiet, CO.reads, CodeK_seq, CodeK_region, CodeK_skip, CodeK_ret, CodeK_exit, CodeK_cond, CodeK_block, CondK_true, CondK_false, RunK_cons, RunK_nil, RunK_guard, GuardK_tt, GuardK_ff, GuardK_tf, GuardK_ft, GuardK_u, ResK_some, RetK_nil, RetK_seq, RetK_seq_exit, RetK_seq_ret, RetK_block, RetK_block_ret, RetK_block_exit, RetK_block_exit_ne, op_mv, op_un, op_bin, op_load, loadV_ptr, op_faddr, faddrV_ptr, op_pick, pickV_true, pickV_false, pickV_bool, pickV_same, op_box, boxV_agg, op_call, op_build, op_ext, op_alloc, op_store, storeV_ptr, List.all_cons, List.all_nil, AV.one, AV.cells, Bool.and_self, Bool.and_true, Bool.true_and, put, CA.ev, List.set_cons_zero, List.set_cons_succ, List.getD_cons_zero, List.getD_cons_succ, abin, aint, aun, isShift, Option.map_some, Option.bind_some, List.map_cons, List.map_nil, Hp.n_withLow, Hp.n_push, Hp.n_set, Hp.low_withLow, Hp.low_push, Hp.low_set, Hp.get_push, Hp.get_set, Hp.get_withLow, readVar, readCell, readCells, writeCells, cut, fillA, Bool.false_eq_true, if_false, if_true, reduceIte, List.getElem?_cons_zero, List.getElem?_cons_succ, Nat.zero_add, Nat.add_zero, Nat.reduceAdd, Nat.reduceSub, Nat.reduceLT, Nat.reduceLeDiff, Nat.reduceEqDiff, List.length_cons, List.length_nil, List.take_succ_cons, List.take_zero, List.drop_zero, List.drop_succ_cons, List.cons_append, List.nil_append, List.append_nil, DoneK, resAll, resOne, AV.under, AV.unders, and_true, true_and, and_self, or_true, true_or, cond_true, cond_false, Nat.le_refl, Nat.add_eq_left, Nat.left_eq_add, Nat.add_right_cancel_iff, Nat.add_left_cancel_iff, g1, g1', g2, Option.some.injEq, *]) | (refine GuardK_split (fun hb => ?_) (fun hb => ?_)) | (refine CondK_split (fun hb => ?_) (fun hb => ?_)) | (refine CodeK_regionD _ ?_) | (refine DGuardK_split (fun hb => ?_) (fun hb => ?_))
    refine ⟨_, rfl, ?_⟩
    rw [settle_fst]
    refine ⟨_, rfl, fresh_settle hf ?_, ext_settle he'⟩
    simp [AV.under, AV.unders]

/-- A row of one's own, between two heights. -/
def FreshI (lo hi : Nat) (h : AH) (v : AV) (xs : List Int) : Prop :=
  (xs = [] ∧ v = .slice none 0 (.exact 0)) ∨ (xs ≠ [] ∧ ∃ b, lo ≤ b ∧ b < hi ∧ v = .slice (some (b, 0)) xs.length (.opn 1) ∧ h.get b = some (.cells (ints xs) false))
theorem Fresh.int {N : Nat} {h : AH} {v : AV} {xs : List Int} (hf : Fresh N h v xs) : FreshI N h.n h v xs := hf
theorem FreshI.fresh {lo hi N : Nat} {h : AH} {v : AV} {xs : List Int} (hf : FreshI lo hi h v xs) (h1 : N ≤ lo) (h2 : hi ≤ h.n) : Fresh N h v xs := by
  rcases hf with h1 | ⟨h1, b, h2, h3, h4⟩
  · exact .inl h1
  · exact .inr ⟨h1, b, by omega, by omega, h4⟩
theorem FreshI.keep {lo hi : Nat} {h h' : AH} {v : AV} {xs : List Int} (hf : FreshI lo hi h v xs) (hg : ∀ b, lo ≤ b → b < hi → h'.get b = h.get b) : FreshI lo hi h' v xs := by
  rcases hf with h1 | ⟨h1, b, h2, h3, h4, h5⟩
  · exact .inl h1
  · exact .inr ⟨h1, b, h2, h3, h4, by rw [hg b h2 h3, h5]⟩
theorem FreshI.apart {lo hi : Nat} {h : AH} {v : AV} {xs : List Int} (hf : FreshI lo hi h v xs) : ∃ ob, apartRow 1 h v = some ob ∧ ∀ b, ob = some b → lo ≤ b ∧ b < hi := by
  rcases hf with ⟨rfl, rfl⟩ | ⟨hne, b, h1, h2, rfl, h4⟩
  · exact ⟨none, rfl, fun b hb => by cases hb⟩
  · refine ⟨some b, ?_, fun b' hb => by cases hb; exact ⟨h1, h2⟩⟩
    unfold apartRow
    simp only [h4]
    rw [if_pos ⟨trivial, by rw [ints_length, Nat.mul_one]⟩]
theorem FreshI.one {lo hi : Nat} {h : AH} {v : AV} {xs : List Int} (hf : FreshI lo hi h v xs) : v.one = true := by
  rcases hf with ⟨_, rfl⟩ | ⟨_, b, _, _, rfl, _⟩ <;> rfl

/-- What cutting hands back. -/
def cutB (n : Int) (xs : List Int) : Bool := decide (n < 0) || decide ((xs.length : Int) < n)
def cutL (n : Int) (xs : List Int) : List Int := bif cutB n xs then [] else xs.take n.toNat
def cutG (n : Int) (xs : List Int) : List Int := bif cutB n xs then [] else xs.drop n.toNat
def cutE (n : Int) (xs : List Int) : Int := bif cutB n xs then 2 else 0
def CutR (h : AH) (n : Int) (xs : List Int) (v1 : AV) (h1 : AH) : Prop :=
  ∃ v2 v3 m, v1 = .tuple [v2, v3, .int .i64 (cutE n xs)] ∧ FreshI h.n m h1 v2 (cutL n xs) ∧ FreshI m h1.n h1 v3 (cutG n xs) ∧ Ext h h1 ∧ h.n ≤ m ∧ m ≤ h1.n

theorem two_settle {h h' : AH} {m : Nat} {v2 v3 : AV} {e : Int} {xs ys : List Int} (h2 : FreshI h.n m h' v2 xs) (h3 : FreshI m h'.n h' v3 ys) (he : Ext h h') (h4 : h.n ≤ m) (h5 : m ≤ h'.n) :
    ∃ a b m', AV.tuple [v2, v3, .int .i64 e] = .tuple [a, b, .int .i64 e] ∧ FreshI h.n m' (Fs.settle h h' (.tuple [v2, v3, .int .i64 e])).2 a xs ∧ FreshI m' (Fs.settle h h' (.tuple [v2, v3, .int .i64 e])).2.n (Fs.settle h h' (.tuple [v2, v3, .int .i64 e])).2 b ys ∧
      Ext h (Fs.settle h h' (.tuple [v2, v3, .int .i64 e])).2 ∧ h.n ≤ m' ∧ m' ≤ (Fs.settle h h' (.tuple [v2, v3, .int .i64 e])).2.n := by
  refine ⟨v2, v3, ?_⟩
  unfold Fs.settle
  split
  · rename_i hc
    have hu := hc.2
    simp only [AV.under, AV.unders, Bool.and_eq_true, and_true] at hu
    refine ⟨h.n, rfl, ?_, ?_, Ext.refl _, Nat.le_refl _, Nat.le_refl _⟩
    · rcases h2 with g | ⟨g1, b, g2, g3, rfl, g5⟩
      · exact .inl g
      · simp [AV.under] at hu; omega
    · rcases h3 with g | ⟨g1, b, g2, g3, rfl, g5⟩
      · exact .inl g
      · simp [AV.under] at hu; omega
  · exact ⟨m, rfl, h2.keep fun _ _ _ => by simp, by simpa using h3.keep (h' := h'.withLow (min h.low h'.low)) fun _ _ _ => by simp, he.trans (Ext.low _ _), h4, by simpa using h5⟩

theorem cutB_bad {n : Int} {xs : List Int} (hb : cutB n xs = true) : n < 0 ∨ (xs.length : Int) < n := by
  simpa [cutB] using hb
theorem cutB_ok {n : Int} {xs : List Int} (hb : cutB n xs = false) : ∃ k : Nat, n = (k : Int) ∧ k ≤ xs.length := by
  simp only [cutB, Bool.or_eq_false_iff, decide_eq_false_iff_not] at hb
  exact ⟨n.toNat, by omega, by omega⟩

set_option maxRecDepth 100000 in
theorem cut_any (ho : orc 41 = none) {h : AH} {v : AV} {xs : List Int} (hr : IntRow h v xs) (hl : xs.length * 8 ≤ 140737488355328) (n : Int) :
    ∃ v1 h1, acall orc T 41 [v, .int .i64 n] h = some (v1, h1) ∧ CutR h n xs v1 h1 := by
  cases hb : cutB n xs with
  | true =>
    have e1 : cutL n xs = [] := by rw [cutL, hb]; rfl
    have e2 : cutG n xs = [] := by rw [cutG, hb]; rfl
    have e3 : cutE n xs = 2 := by rw [cutE, hb]; rfl
    refine ⟨_, _, cut_bad ho hr (cutB_bad hb), ?_⟩
    unfold CutR
    rw [e1, e2, e3]
    exact ⟨_, _, h.n, rfl, .inl ⟨rfl, rfl⟩, .inl ⟨rfl, rfl⟩, Ext.refl _, Nat.le_refl _, Nat.le_refl _⟩
  | false =>
    obtain ⟨k, rfl, hk⟩ := cutB_ok hb
    have e1 : cutL (k : Int) xs = xs.take k := by rw [cutL, hb]; simp
    have e2 : cutG (k : Int) xs = xs.drop k := by rw [cutG, hb]; simp
    have e3 : cutE (k : Int) xs = 0 := by rw [cutE, hb]; rfl
    unfold CutR
    rw [e1, e2, e3]
    refine acall_facts (R := fun v1 h1 => ∃ v2 v3 m, v1 = .tuple [v2, v3, .int .i64 0] ∧ FreshI h.n m h1 v2 (xs.take k) ∧ FreshI m h1.n h1 v3 (xs.drop k) ∧ Ext h h1 ∧ h.n ≤ m ∧ m ≤ h1.n) ho tbl41 ?_
    have hlen := hr.len
    have l1 : decide ((k : Int) < 0) = false := by simp
    have l2 : decide ((xs.length : Int) < (k : Int)) = false := by simp; omega
    obtain ⟨va, s1, hra⟩ := slc_hi hr hk
    obtain ⟨vb, s2, hrb⟩ := slc_lo hr hk
    dsimp only [List.length, List.replicate, List.append, List.cons_append, List.nil_append, Nat.reduceAdd, Nat.reduceSub]
    repeat' first | (simp only [op_lenS, lenSV_str, op_lenV, lenV_slice, op_toInt, toIntV_int, op_iaddrS, RetK_inv, RetK_inv_exit, RetK_inv_ret, Nat.add_assoc, Nat.reduceEqDiff, Nat.reduceBEq, Nat.reduceBNe, Nat.le_min, Nat.le_add_right, Nat.min_self, Int.reduceBEq, Int.reduceBNe, Int.reduceLT, Int.reduceLE, Int.reduceEq, beq_self_eq_true, bne_self_eq_false, Bool.not_true, Bool.not_false, decide_true, decide_false, decide_eq_true_eq, Bool.and_eq_true, List.mapM_cons, List.mapM_nil, Option.bind_eq_bind, Option.pure_def, aeqK_agg, aeqK_scal, leavesK_nil, leavesK_cons, leafK_i, leafK_b, leafK_s, DrawK_nil, DrawK_cons, DrawK_guard, DResK_some, DGuardK_tt, DGuardK_ff, DGuardK_tf, DGuardK_ft, DGuardK_u, kept_load, Kept, KeptOne, closeOp, CO.quiet, CO.reads, CodeK_seq, CodeK_region, CodeK_skip, CodeK_ret, CodeK_exit, CodeK_cond, CodeK_block, CondK_true, CondK_false, RunK_cons, RunK_nil, RunK_guard, GuardK_tt, GuardK_ff, GuardK_tf, GuardK_ft, GuardK_u, ResK_some, RetK_nil, RetK_seq, RetK_seq_exit, RetK_seq_ret, RetK_block, RetK_block_ret, RetK_block_exit, RetK_block_exit_ne, op_mv, op_un, op_bin, op_load, loadV_ptr, op_faddr, faddrV_ptr, op_pick, pickV_true, pickV_false, pickV_bool, pickV_same, op_box, boxV_agg, op_call, op_build, op_ext, op_alloc, op_store, storeV_ptr, List.all_cons, List.all_nil, AV.one, AV.cells, Bool.and_self, Bool.and_true, Bool.true_and, put, CA.ev, List.set_cons_zero, List.set_cons_succ, List.getD_cons_zero, List.getD_cons_succ, abin, aint, aun, isShift, Option.map_some, Option.bind_some, List.map_cons, List.map_nil, Hp.n_withLow, Hp.n_push, Hp.n_set, Hp.low_withLow, Hp.low_push, Hp.low_set, Hp.get_push, Hp.get_set, Hp.get_withLow, readVar, readCell, readCells, writeCells, cut, fillA, Bool.false_eq_true, if_false, if_true, reduceIte, List.getElem?_cons_zero, List.getElem?_cons_succ, Nat.zero_add, Nat.add_zero, Nat.reduceAdd, Nat.reduceSub, Nat.reduceLT, Nat.reduceLeDiff, Nat.reduceEqDiff, List.length_cons, List.length_nil, List.take_succ_cons, List.take_zero, List.drop_zero, List.drop_succ_cons, List.cons_append, List.nil_append, List.append_nil, DoneK, resAll, resOne, AV.under, AV.unders, and_true, true_and, and_self, or_true, true_or, cond_true, cond_false, Nat.le_refl, Nat.add_eq_left, Nat.left_eq_add, Nat.add_right_cancel_iff, Nat.add_left_cancel_iff, hlen, l1, l2, op_slcV, s1, op_append, *]) | (refine GuardK_split (fun hb => ?_) (fun hb => ?_)) | (refine CondK_split (fun hb => ?_) (fun hb => ?_)) | (refine CodeK_regionD _ ?_) | (refine DGuardK_split (fun hb => ?_) (fun hb => ?_))
    refine DResK_ex (app_nil (hra.ext (Ext.low h h.n)) (by rw [List.length_take]; omega)) fun v2 h2 hL => ?_
    obtain ⟨hf, he, _⟩ := hL
    simp only [Hp.n_withLow] at hf
    have he' := (Ext.low h h.n).trans he
    repeat' first | (simp only [op_lenS, lenSV_str, op_lenV, lenV_slice, op_toInt, toIntV_int, op_iaddrS, RetK_inv, RetK_inv_exit, RetK_inv_ret, Nat.add_assoc, Nat.reduceEqDiff, Nat.reduceBEq, Nat.reduceBNe, Nat.le_min, Nat.le_add_right, Nat.min_self, Int.reduceBEq, Int.reduceBNe, Int.reduceLT, Int.reduceLE, Int.reduceEq, beq_self_eq_true, bne_self_eq_false, Bool.not_true, Bool.not_false, decide_true, decide_false, decide_eq_true_eq, Bool.and_eq_true, List.mapM_cons, List.mapM_nil, Option.bind_eq_bind, Option.pure_def, aeqK_agg, aeqK_scal, leavesK_nil, leavesK_cons, leafK_i, leafK_b, leafK_s, DrawK_nil, DrawK_cons, DrawK_guard, DResK_some, DGuardK_tt, DGuardK_ff, DGuardK_tf, DGuardK_ft, DGuardK_u, kept_load, Kept, KeptOne, closeOp, CO.quiet, CO.reads, CodeK_seq, CodeK_region, CodeK_skip, CodeK_ret, CodeK_exit, CodeK_cond, CodeK_block, CondK_true, CondK_false, RunK_cons, RunK_nil, RunK_guard, GuardK_tt, GuardK_ff, GuardK_tf, GuardK_ft, GuardK_u, ResK_some, RetK_nil, RetK_seq, RetK_seq_exit, RetK_seq_ret, RetK_block, RetK_block_ret, RetK_block_exit, RetK_block_exit_ne, op_mv, op_un, op_bin, op_load, loadV_ptr, op_faddr, faddrV_ptr, op_pick, pickV_true, pickV_false, pickV_bool, pickV_same, op_box, boxV_agg, op_call, op_build, op_ext, op_alloc, op_store, storeV_ptr, List.all_cons, List.all_nil, AV.one, AV.cells, Bool.and_self, Bool.and_true, Bool.true_and, put, CA.ev, List.set_cons_zero, List.set_cons_succ, List.getD_cons_zero, List.getD_cons_succ, abin, aint, aun, isShift, Option.map_some, Option.bind_some, List.map_cons, List.map_nil, Hp.n_withLow, Hp.n_push, Hp.n_set, Hp.low_withLow, Hp.low_push, Hp.low_set, Hp.get_push, Hp.get_set, Hp.get_withLow, readVar, readCell, readCells, writeCells, cut, fillA, Bool.false_eq_true, if_false, if_true, reduceIte, List.getElem?_cons_zero, List.getElem?_cons_succ, Nat.zero_add, Nat.add_zero, Nat.reduceAdd, Nat.reduceSub, Nat.reduceLT, Nat.reduceLeDiff, Nat.reduceEqDiff, List.length_cons, List.length_nil, List.take_succ_cons, List.take_zero, List.drop_zero, List.drop_succ_cons, List.cons_append, List.nil_append, List.append_nil, DoneK, resAll, resOne, AV.under, AV.unders, and_true, true_and, and_self, or_true, true_or, cond_true, cond_false, Nat.le_refl, Nat.add_eq_left, Nat.left_eq_add, Nat.add_right_cancel_iff, Nat.add_left_cancel_iff, op_slcV, s2, op_append, *]) | (refine GuardK_split (fun hb => ?_) (fun hb => ?_)) | (refine CondK_split (fun hb => ?_) (fun hb => ?_)) | (refine CodeK_regionD _ ?_) | (refine DGuardK_split (fun hb => ?_) (fun hb => ?_))
    refine DResK_ex (app_nil (hrb.ext he') (by rw [List.length_drop]; omega)) fun v3 h3 hL => ?_
    obtain ⟨hf3, he3, _⟩ := hL
    have he3' := he'.trans he3
    have hm := he'.1
    have hm3 := he3.1
    repeat' first | (simp only [op_lenS, lenSV_str, op_lenV, lenV_slice, op_toInt, toIntV_int, op_iaddrS, RetK_inv, RetK_inv_exit, RetK_inv_ret, Nat.add_assoc, Nat.reduceEqDiff, Nat.reduceBEq, Nat.reduceBNe, Nat.le_min, Nat.le_add_right, Nat.min_self, Int.reduceBEq, Int.reduceBNe, Int.reduceLT, Int.reduceLE, Int.reduceEq, beq_self_eq_true, bne_self_eq_false, Bool.not_true, Bool.not_false, decide_true, decide_false, decide_eq_true_eq, Bool.and_eq_true, List.mapM_cons, List.mapM_nil, Option.bind_eq_bind, Option.pure_def, aeqK_agg, aeqK_scal, leavesK_nil, leavesK_cons, leafK_i, leafK_b, leafK_s, DrawK_nil, DrawK_cons, DrawK_guard, DResK_some, DGuardK_tt, DGuardK_ff, DGuardK_tf, DGuardK_ft, DGuardK_u, kept_load, Kept, KeptOne, closeOp, CO.quiet, CO.reads, CodeK_seq, CodeK_region, CodeK_skip, CodeK_ret, CodeK_exit, CodeK_cond, CodeK_block, CondK_true, CondK_false, RunK_cons, RunK_nil, RunK_guard, GuardK_tt, GuardK_ff, GuardK_tf, GuardK_ft, GuardK_u, ResK_some, RetK_nil, RetK_seq, RetK_seq_exit, RetK_seq_ret, RetK_block, RetK_block_ret, RetK_block_exit, RetK_block_exit_ne, op_mv, op_un, op_bin, op_load, loadV_ptr, op_faddr, faddrV_ptr, op_pick, pickV_true, pickV_false, pickV_bool, pickV_same, op_box, boxV_agg, op_call, op_build, op_ext, op_alloc, op_store, storeV_ptr, List.all_cons, List.all_nil, AV.one, AV.cells, Bool.and_self, Bool.and_true, Bool.true_and, put, CA.ev, List.set_cons_zero, List.set_cons_succ, List.getD_cons_zero, List.getD_cons_succ, abin, aint, aun, isShift, Option.map_some, Option.bind_some, List.map_cons, List.map_nil, Hp.n_withLow, Hp.n_push, Hp.n_set, Hp.low_withLow, Hp.low_push, Hp.low_set, Hp.get_push, Hp.get_set, Hp.get_withLow, readVar, readCell, readCells, writeCells, cut, fillA, Bool.false_eq_true, if_false, if_true, reduceIte, List.getElem?_cons_zero, List.getElem?_cons_succ, Nat.zero_add, Nat.add_zero, Nat.reduceAdd, Nat.reduceSub, Nat.reduceLT, Nat.reduceLeDiff, Nat.reduceEqDiff, List.length_cons, List.length_nil, List.take_succ_cons, List.take_zero, List.drop_zero, List.drop_succ_cons, List.cons_append, List.nil_append, List.append_nil, DoneK, resAll, resOne, AV.under, AV.unders, and_true, true_and, and_self, or_true, true_or, cond_true, cond_false, Nat.le_refl, Nat.add_eq_left, Nat.left_eq_add, Nat.add_right_cancel_iff, Nat.add_left_cancel_iff, Option.some.injEq, *]) | (refine GuardK_split (fun hb => ?_) (fun hb => ?_)) | (refine CondK_split (fun hb => ?_) (fun hb => ?_)) | (refine CodeK_regionD _ ?_) | (refine DGuardK_split (fun hb => ?_) (fun hb => ?_))
    refine ⟨_, rfl, ?_⟩
    rw [settle_fst]
    exact two_settle (m := h2.n) (hf.int.keep fun b _ q => he3.2 b q) hf3.int he3' hm hm3

set_option maxRecDepth 100000 in
theorem refcut_any (ho : orc 45 = none) (ho2 : orc 64 = none) {h : AH} {v : AV} {xs : List Int} (hr : IntRow h v xs) (hl : xs.length * 8 ≤ 140737488355328) (n : Int) :
    ∃ v1 h1, acall orc T 45 [v, .int .i64 n] h = some (v1, h1) ∧ CutR h n xs v1 h1 := by
  have hlen := hr.len
  cases hb : cutB n xs with
  | true =>
    have e1 : cutL n xs = [] := by rw [cutL, hb]; rfl
    have e2 : cutG n xs = [] := by rw [cutG, hb]; rfl
    have e3 : cutE n xs = 2 := by rw [cutE, hb]; rfl
    refine ⟨.tuple [.slice none 0 (.exact 0), .slice none 0 (.exact 0), .int .i64 2], h, ?_, ?_⟩
    · refine acall_sym ho tbl45 ?_
      dsimp only [List.length, List.replicate, List.append, List.cons_append, List.nil_append, Nat.reduceAdd, Nat.reduceSub]
      by_cases h0 : n < 0
      · have l1 : decide (n < 0) = true := by simp [h0]
        repeat' first | (simp only [op_lenS, lenSV_str, op_lenV, lenV_slice, op_toInt, toIntV_int, op_iaddrS, RetK_inv, RetK_inv_exit, RetK_inv_ret, Nat.add_assoc, Nat.reduceEqDiff, Nat.reduceBEq, Nat.reduceBNe, Nat.le_min, Nat.le_add_right, Nat.min_self, Int.reduceBEq, Int.reduceBNe, Int.reduceLT, Int.reduceLE, Int.reduceEq, beq_self_eq_true, bne_self_eq_false, Bool.not_true, Bool.not_false, decide_true, decide_false, decide_eq_true_eq, Bool.and_eq_true, List.mapM_cons, List.mapM_nil, Option.bind_eq_bind, Option.pure_def, aeqK_agg, aeqK_scal, leavesK_nil, leavesK_cons, leafK_i, leafK_b, leafK_s, DrawK_nil, DrawK_cons, DrawK_guard, DResK_some, DGuardK_tt, DGuardK_ff, DGuardK_tf, DGuardK_ft, DGuardK_u, kept_load, Kept, KeptOne, closeOp, CO.quiet, CO.reads, CodeK_seq, CodeK_region, CodeK_skip, CodeK_ret, CodeK_exit, CodeK_cond, CodeK_block, CondK_true, CondK_false, RunK_cons, RunK_nil, RunK_guard, GuardK_tt, GuardK_ff, GuardK_tf, GuardK_ft, GuardK_u, ResK_some, RetK_nil, RetK_seq, RetK_seq_exit, RetK_seq_ret, RetK_block, RetK_block_ret, RetK_block_exit, RetK_block_exit_ne, op_mv, op_un, op_bin, op_load, loadV_ptr, op_faddr, faddrV_ptr, op_pick, pickV_true, pickV_false, pickV_bool, pickV_same, op_box, boxV_agg, op_call, op_build, op_ext, op_alloc, op_store, storeV_ptr, List.all_cons, List.all_nil, AV.one, AV.cells, Bool.and_self, Bool.and_true, Bool.true_and, put, CA.ev, List.set_cons_zero, List.set_cons_succ, List.getD_cons_zero, List.getD_cons_succ, abin, aint, aun, isShift, Option.map_some, Option.bind_some, List.map_cons, List.map_nil, Hp.n_withLow, Hp.n_push, Hp.n_set, Hp.low_withLow, Hp.low_push, Hp.low_set, Hp.get_push, Hp.get_set, Hp.get_withLow, readVar, readCell, readCells, writeCells, cut, fillA, Bool.false_eq_true, if_false, if_true, reduceIte, List.getElem?_cons_zero, List.getElem?_cons_succ, Nat.zero_add, Nat.add_zero, Nat.reduceAdd, Nat.reduceSub, Nat.reduceLT, Nat.reduceLeDiff, Nat.reduceEqDiff, List.length_cons, List.length_nil, List.take_succ_cons, List.take_zero, List.drop_zero, List.drop_succ_cons, List.cons_append, List.nil_append, List.append_nil, DoneK, resAll, resOne, AV.under, AV.unders, and_true, true_and, and_self, or_true, true_or, cond_true, cond_false, Nat.le_refl, Nat.add_eq_left, Nat.left_eq_add, Nat.add_right_cancel_iff, Nat.add_left_cancel_iff, hlen, l1, *]) | (refine GuardK_split (fun hb => ?_) (fun hb => ?_)) | (refine CondK_split (fun hb => ?_) (fun hb => ?_)) | (refine CodeK_regionD _ ?_) | (refine DGuardK_split (fun hb => ?_) (fun hb => ?_))
      · have l1 : decide (n < 0) = false := by simp; omega
        have l2 : decide ((xs.length : Int) < n) = true := by have := cutB_bad hb; simp; omega
        repeat' first | (simp only [op_lenS, lenSV_str, op_lenV, lenV_slice, op_toInt, toIntV_int, op_iaddrS, RetK_inv, RetK_inv_exit, RetK_inv_ret, Nat.add_assoc, Nat.reduceEqDiff, Nat.reduceBEq, Nat.reduceBNe, Nat.le_min, Nat.le_add_right, Nat.min_self, Int.reduceBEq, Int.reduceBNe, Int.reduceLT, Int.reduceLE, Int.reduceEq, beq_self_eq_true, bne_self_eq_false, Bool.not_true, Bool.not_false, decide_true, decide_false, decide_eq_true_eq, Bool.and_eq_true, List.mapM_cons, List.mapM_nil, Option.bind_eq_bind, Option.pure_def, aeqK_agg, aeqK_scal, leavesK_nil, leavesK_cons, leafK_i, leafK_b, leafK_s, DrawK_nil, DrawK_cons, DrawK_guard, DResK_some, DGuardK_tt, DGuardK_ff, DGuardK_tf, DGuardK_ft, DGuardK_u, kept_load, Kept, KeptOne, closeOp, CO.quiet, CO.reads, CodeK_seq, CodeK_region, CodeK_skip, CodeK_ret, CodeK_exit, CodeK_cond, CodeK_block, CondK_true, CondK_false, RunK_cons, RunK_nil, RunK_guard, GuardK_tt, GuardK_ff, GuardK_tf, GuardK_ft, GuardK_u, ResK_some, RetK_nil, RetK_seq, RetK_seq_exit, RetK_seq_ret, RetK_block, RetK_block_ret, RetK_block_exit, RetK_block_exit_ne, op_mv, op_un, op_bin, op_load, loadV_ptr, op_faddr, faddrV_ptr, op_pick, pickV_true, pickV_false, pickV_bool, pickV_same, op_box, boxV_agg, op_call, op_build, op_ext, op_alloc, op_store, storeV_ptr, List.all_cons, List.all_nil, AV.one, AV.cells, Bool.and_self, Bool.and_true, Bool.true_and, put, CA.ev, List.set_cons_zero, List.set_cons_succ, List.getD_cons_zero, List.getD_cons_succ, abin, aint, aun, isShift, Option.map_some, Option.bind_some, List.map_cons, List.map_nil, Hp.n_withLow, Hp.n_push, Hp.n_set, Hp.low_withLow, Hp.low_push, Hp.low_set, Hp.get_push, Hp.get_set, Hp.get_withLow, readVar, readCell, readCells, writeCells, cut, fillA, Bool.false_eq_true, if_false, if_true, reduceIte, List.getElem?_cons_zero, List.getElem?_cons_succ, Nat.zero_add, Nat.add_zero, Nat.reduceAdd, Nat.reduceSub, Nat.reduceLT, Nat.reduceLeDiff, Nat.reduceEqDiff, List.length_cons, List.length_nil, List.take_succ_cons, List.take_zero, List.drop_zero, List.drop_succ_cons, List.cons_append, List.nil_append, List.append_nil, DoneK, resAll, resOne, AV.under, AV.unders, and_true, true_and, and_self, or_true, true_or, cond_true, cond_false, Nat.le_refl, Nat.add_eq_left, Nat.left_eq_add, Nat.add_right_cancel_iff, Nat.add_left_cancel_iff, hlen, l1, l2, *]) | (refine GuardK_split (fun hb => ?_) (fun hb => ?_)) | (refine CondK_split (fun hb => ?_) (fun hb => ?_)) | (refine CodeK_regionD _ ?_) | (refine DGuardK_split (fun hb => ?_) (fun hb => ?_))
    · unfold CutR
      rw [e1, e2, e3]
      exact ⟨_, _, h.n, rfl, .inl ⟨rfl, rfl⟩, .inl ⟨rfl, rfl⟩, Ext.refl _, Nat.le_refl _, Nat.le_refl _⟩
  | false =>
    obtain ⟨k, rfl, hk⟩ := cutB_ok hb
    have e1 : cutL (k : Int) xs = xs.take k := by rw [cutL, hb]; simp
    have e2 : cutG (k : Int) xs = xs.drop k := by rw [cutG, hb]; simp
    have e3 : cutE (k : Int) xs = 0 := by rw [cutE, hb]; rfl
    unfold CutR
    rw [e1, e2, e3]
    refine acall_facts (R := fun v1 h1 => ∃ v2 v3 m, v1 = .tuple [v2, v3, .int .i64 0] ∧ FreshI h.n m h1 v2 (xs.take k) ∧ FreshI m h1.n h1 v3 (xs.drop k) ∧ Ext h h1 ∧ h.n ≤ m ∧ m ≤ h1.n) ho tbl45 ?_
    have l1 : decide ((k : Int) < 0) = false := by simp
    have l2 : decide ((xs.length : Int) < (k : Int)) = false := by simp; omega
    obtain ⟨va, s1, hra⟩ := slc_hi hr hk
    obtain ⟨vb, s2, hrb⟩ := slc_lo hr hk
    dsimp only [List.length, List.replicate, List.append, List.cons_append, List.nil_append, Nat.reduceAdd, Nat.reduceSub]
    repeat' first | (simp only [op_lenS, lenSV_str, op_lenV, lenV_slice, op_toInt, toIntV_int, op_iaddrS, RetK_inv, RetK_inv_exit, RetK_inv_ret, Nat.add_assoc, Nat.reduceEqDiff, Nat.reduceBEq, Nat.reduceBNe, Nat.le_min, Nat.le_add_right, Nat.min_self, Int.reduceBEq, Int.reduceBNe, Int.reduceLT, Int.reduceLE, Int.reduceEq, beq_self_eq_true, bne_self_eq_false, Bool.not_true, Bool.not_false, decide_true, decide_false, decide_eq_true_eq, Bool.and_eq_true, List.mapM_cons, List.mapM_nil, Option.bind_eq_bind, Option.pure_def, aeqK_agg, aeqK_scal, leavesK_nil, leavesK_cons, leafK_i, leafK_b, leafK_s, DrawK_nil, DrawK_cons, DrawK_guard, DResK_some, DGuardK_tt, DGuardK_ff, DGuardK_tf, DGuardK_ft, DGuardK_u, kept_load, Kept, KeptOne, closeOp, CO.quiet, CO.reads, CodeK_seq, CodeK_region, CodeK_skip, CodeK_ret, CodeK_exit, CodeK_cond, CodeK_block, CondK_true, CondK_false, RunK_cons, RunK_nil, RunK_guard, GuardK_tt, GuardK_ff, GuardK_tf, GuardK_ft, GuardK_u, ResK_some, RetK_nil, RetK_seq, RetK_seq_exit, RetK_seq_ret, RetK_block, RetK_block_ret, RetK_block_exit, RetK_block_exit_ne, op_mv, op_un, op_bin, op_load, loadV_ptr, op_faddr, faddrV_ptr, op_pick, pickV_true, pickV_false, pickV_bool, pickV_same, op_box, boxV_agg, op_call, op_build, op_ext, op_alloc, op_store, storeV_ptr, List.all_cons, List.all_nil, AV.one, AV.cells, Bool.and_self, Bool.and_true, Bool.true_and, put, CA.ev, List.set_cons_zero, List.set_cons_succ, List.getD_cons_zero, List.getD_cons_succ, abin, aint, aun, isShift, Option.map_some, Option.bind_some, List.map_cons, List.map_nil, Hp.n_withLow, Hp.n_push, Hp.n_set, Hp.low_withLow, Hp.low_push, Hp.low_set, Hp.get_push, Hp.get_set, Hp.get_withLow, readVar, readCell, readCells, writeCells, cut, fillA, Bool.false_eq_true, if_false, if_true, reduceIte, List.getElem?_cons_zero, List.getElem?_cons_succ, Nat.zero_add, Nat.add_zero, Nat.reduceAdd, Nat.reduceSub, Nat.reduceLT, Nat.reduceLeDiff, Nat.reduceEqDiff, List.length_cons, List.length_nil, List.take_succ_cons, List.take_zero, List.drop_zero, List.drop_succ_cons, List.cons_append, List.nil_append, List.append_nil, DoneK, resAll, resOne, AV.under, AV.unders, and_true, true_and, and_self, or_true, true_or, cond_true, cond_false, Nat.le_refl, Nat.add_eq_left, Nat.left_eq_add, Nat.add_right_cancel_iff, Nat.add_left_cancel_iff, hlen, l1, l2, op_slcV, s1, *]) | (refine GuardK_split (fun hb => ?_) (fun hb => ?_)) | (refine CondK_split (fun hb => ?_) (fun hb => ?_)) | (refine CodeK_regionD _ ?_) | (refine DGuardK_split (fun hb => ?_) (fun hb => ?_))
    refine DResK_ex (copied_spec ho2 (hra.ext (Ext.low h h.n)) (by rw [List.length_take]; omega)) fun v2 h2 hL => ?_
    obtain ⟨hf, he⟩ := hL
    simp only [Hp.n_withLow] at hf
    have he' := (Ext.low h h.n).trans he
    repeat' first | (simp only [op_lenS, lenSV_str, op_lenV, lenV_slice, op_toInt, toIntV_int, op_iaddrS, RetK_inv, RetK_inv_exit, RetK_inv_ret, Nat.add_assoc, Nat.reduceEqDiff, Nat.reduceBEq, Nat.reduceBNe, Nat.le_min, Nat.le_add_right, Nat.min_self, Int.reduceBEq, Int.reduceBNe, Int.reduceLT, Int.reduceLE, Int.reduceEq, beq_self_eq_true, bne_self_eq_false, Bool.not_true, Bool.not_false, decide_true, decide_false, decide_eq_true_eq, Bool.and_eq_true, List.mapM_cons, List.mapM_nil, Option.bind_eq_bind, Option.pure_def, aeqK_agg, aeqK_scal, leavesK_nil, leavesK_cons, leafK_i, leafK_b, leafK_s, DrawK_nil, DrawK_cons, DrawK_guard, DResK_some, DGuardK_tt, DGuardK_ff, DGuardK_tf, DGuardK_ft, DGuardK_u, kept_load, Kept, KeptOne, closeOp, CO.quiet, CO.reads, CodeK_seq, CodeK_region, CodeK_skip, CodeK_ret, CodeK_exit, CodeK_cond, CodeK_block, CondK_true, CondK_false, RunK_cons, RunK_nil, RunK_guard, GuardK_tt, GuardK_ff, GuardK_tf, GuardK_ft, GuardK_u, ResK_some, RetK_nil, RetK_seq, RetK_seq_exit, RetK_seq_ret, RetK_block, RetK_block_ret, RetK_block_exit, RetK_block_exit_ne, op_mv, op_un, op_bin, op_load, loadV_ptr, op_faddr, faddrV_ptr, op_pick, pickV_true, pickV_false, pickV_bool, pickV_same, op_box, boxV_agg, op_call, op_build, op_ext, op_alloc, op_store, storeV_ptr, List.all_cons, List.all_nil, AV.one, AV.cells, Bool.and_self, Bool.and_true, Bool.true_and, put, CA.ev, List.set_cons_zero, List.set_cons_succ, List.getD_cons_zero, List.getD_cons_succ, abin, aint, aun, isShift, Option.map_some, Option.bind_some, List.map_cons, List.map_nil, Hp.n_withLow, Hp.n_push, Hp.n_set, Hp.low_withLow, Hp.low_push, Hp.low_set, Hp.get_push, Hp.get_set, Hp.get_withLow, readVar, readCell, readCells, writeCells, cut, fillA, Bool.false_eq_true, if_false, if_true, reduceIte, List.getElem?_cons_zero, List.getElem?_cons_succ, Nat.zero_add, Nat.add_zero, Nat.reduceAdd, Nat.reduceSub, Nat.reduceLT, Nat.reduceLeDiff, Nat.reduceEqDiff, List.length_cons, List.length_nil, List.take_succ_cons, List.take_zero, List.drop_zero, List.drop_succ_cons, List.cons_append, List.nil_append, List.append_nil, DoneK, resAll, resOne, AV.under, AV.unders, and_true, true_and, and_self, or_true, true_or, cond_true, cond_false, Nat.le_refl, Nat.add_eq_left, Nat.left_eq_add, Nat.add_right_cancel_iff, Nat.add_left_cancel_iff, op_slcV, s2, *]) | (refine GuardK_split (fun hb => ?_) (fun hb => ?_)) | (refine CondK_split (fun hb => ?_) (fun hb => ?_)) | (refine CodeK_regionD _ ?_) | (refine DGuardK_split (fun hb => ?_) (fun hb => ?_))
    refine DResK_ex (copied_spec ho2 (hrb.ext he') (by rw [List.length_drop]; omega)) fun v3 h3 hL => ?_
    obtain ⟨hf3, he3⟩ := hL
    have he3' := he'.trans he3
    have hm := he'.1
    have hm3 := he3.1
    repeat' first | (simp only [op_lenS, lenSV_str, op_lenV, lenV_slice, op_toInt, toIntV_int, op_iaddrS, RetK_inv, RetK_inv_exit, RetK_inv_ret, Nat.add_assoc, Nat.reduceEqDiff, Nat.reduceBEq, Nat.reduceBNe, Nat.le_min, Nat.le_add_right, Nat.min_self, Int.reduceBEq, Int.reduceBNe, Int.reduceLT, Int.reduceLE, Int.reduceEq, beq_self_eq_true, bne_self_eq_false, Bool.not_true, Bool.not_false, decide_true, decide_false, decide_eq_true_eq, Bool.and_eq_true, List.mapM_cons, List.mapM_nil, Option.bind_eq_bind, Option.pure_def, aeqK_agg, aeqK_scal, leavesK_nil, leavesK_cons, leafK_i, leafK_b, leafK_s, DrawK_nil, DrawK_cons, DrawK_guard, DResK_some, DGuardK_tt, DGuardK_ff, DGuardK_tf, DGuardK_ft, DGuardK_u, kept_load, Kept, KeptOne, closeOp, CO.quiet, CO.reads, CodeK_seq, CodeK_region, CodeK_skip, CodeK_ret, CodeK_exit, CodeK_cond, CodeK_block, CondK_true, CondK_false, RunK_cons, RunK_nil, RunK_guard, GuardK_tt, GuardK_ff, GuardK_tf, GuardK_ft, GuardK_u, ResK_some, RetK_nil, RetK_seq, RetK_seq_exit, RetK_seq_ret, RetK_block, RetK_block_ret, RetK_block_exit, RetK_block_exit_ne, op_mv, op_un, op_bin, op_load, loadV_ptr, op_faddr, faddrV_ptr, op_pick, pickV_true, pickV_false, pickV_bool, pickV_same, op_box, boxV_agg, op_call, op_build, op_ext, op_alloc, op_store, storeV_ptr, List.all_cons, List.all_nil, AV.one, AV.cells, Bool.and_self, Bool.and_true, Bool.true_and, put, CA.ev, List.set_cons_zero, List.set_cons_succ, List.getD_cons_zero, List.getD_cons_succ, abin, aint, aun, isShift, Option.map_some, Option.bind_some, List.map_cons, List.map_nil, Hp.n_withLow, Hp.n_push, Hp.n_set, Hp.low_withLow, Hp.low_push, Hp.low_set, Hp.get_push, Hp.get_set, Hp.get_withLow, readVar, readCell, readCells, writeCells, cut, fillA, Bool.false_eq_true, if_false, if_true, reduceIte, List.getElem?_cons_zero, List.getElem?_cons_succ, Nat.zero_add, Nat.add_zero, Nat.reduceAdd, Nat.reduceSub, Nat.reduceLT, Nat.reduceLeDiff, Nat.reduceEqDiff, List.length_cons, List.length_nil, List.take_succ_cons, List.take_zero, List.drop_zero, List.drop_succ_cons, List.cons_append, List.nil_append, List.append_nil, DoneK, resAll, resOne, AV.under, AV.unders, and_true, true_and, and_self, or_true, true_or, cond_true, cond_false, Nat.le_refl, Nat.add_eq_left, Nat.left_eq_add, Nat.add_right_cancel_iff, Nat.add_left_cancel_iff, Option.some.injEq, *]) | (refine GuardK_split (fun hb => ?_) (fun hb => ?_)) | (refine CondK_split (fun hb => ?_) (fun hb => ?_)) | (refine CodeK_regionD _ ?_) | (refine DGuardK_split (fun hb => ?_) (fun hb => ?_))
    refine ⟨_, rfl, ?_⟩
    rw [settle_fst]
    exact two_settle (m := h2.n) (hf.int.keep fun b _ q => he3.2 b q) hf3.int he3' hm hm3

set_option maxRecDepth 100000 in
set_option maxHeartbeats 4000000 in
theorem refunder_spec (ho : orc 47 = none) (ho2 : orc 64 = none) {h : AH} {v : AV} {xs : List Int} (hr : IntRow h v xs) (hl : (xs.length + 1) * 8 ≤ 140737488355328) (x : Int) :
    ∃ v1 h1, acall orc T 47 [v, .int .i64 x] h = some (v1, h1) ∧ (Fresh h.n h1 v1 (xs ++ [x]) ∧ Ext h h1) := by
  refine acall_facts (R := fun v1 h1 => Fresh h.n h1 v1 (xs ++ [x]) ∧ Ext h h1) ho tbl47 ?_
  have o3 : ∀ a y : AV, Fs.over [a] 0 [y] = [y] := fun _ _ => rfl
  have r1 : ∀ a : AV, Fs.reps [a] 1 = [a] := fun _ => rfl
  dsimp only [List.length, List.replicate, List.append, List.cons_append, List.nil_append, Nat.reduceAdd, Nat.reduceSub]
  repeat' first | (simp only [op_lenS, lenSV_str, op_lenV, lenV_slice, op_toInt, toIntV_int, op_iaddrS, RetK_inv, RetK_inv_exit, RetK_inv_ret, Nat.add_assoc, Nat.reduceEqDiff, Nat.reduceBEq, Nat.reduceBNe, Nat.le_min, Nat.le_add_right, Nat.min_self, Int.reduceBEq, Int.reduceBNe, Int.reduceLT, Int.reduceLE, Int.reduceEq, beq_self_eq_true, bne_self_eq_false, Bool.not_true, Bool.not_false, decide_true, decide_false, decide_eq_true_eq, Bool.and_eq_true, List.mapM_cons, List.mapM_nil, Option.bind_eq_bind, Option.pure_def, aeqK_agg, aeqK_scal, leavesK_nil, leavesK_cons, leafK_i, leafK_b, leafK_s, DrawK_nil, DrawK_cons, DrawK_guard, DResK_some, DGuardK_tt, DGuardK_ff, DGuardK_tf, DGuardK_ft, DGuardK_u, kept_load, Kept, KeptOne, closeOp, CO.quiet, CO.reads, CodeK_seq, CodeK_region, CodeK_skip, CodeK_ret, CodeK_exit, CodeK_cond, CodeK_block, CondK_true, CondK_false, RunK_cons, RunK_nil, RunK_guard, GuardK_tt, GuardK_ff, GuardK_tf, GuardK_ft, GuardK_u, ResK_some, RetK_nil, RetK_seq, RetK_seq_exit, RetK_seq_ret, RetK_block, RetK_block_ret, RetK_block_exit, RetK_block_exit_ne, op_mv, op_un, op_bin, op_load, loadV_ptr, op_faddr, faddrV_ptr, op_pick, pickV_true, pickV_false, pickV_bool, pickV_same, op_box, boxV_agg, op_call, op_build, op_ext, op_alloc, op_store, storeV_ptr, List.all_cons, List.all_nil, AV.one, AV.cells, Bool.and_self, Bool.and_true, Bool.true_and, put, CA.ev, List.set_cons_zero, List.set_cons_succ, List.getD_cons_zero, List.getD_cons_succ, abin, aint, aun, isShift, Option.map_some, Option.bind_some, List.map_cons, List.map_nil, Hp.n_withLow, Hp.n_push, Hp.n_set, Hp.low_withLow, Hp.low_push, Hp.low_set, Hp.get_push, Hp.get_set, Hp.get_withLow, readVar, readCell, readCells, writeCells, cut, fillA, Bool.false_eq_true, if_false, if_true, reduceIte, List.getElem?_cons_zero, List.getElem?_cons_succ, Nat.zero_add, Nat.add_zero, Nat.reduceAdd, Nat.reduceSub, Nat.reduceLT, Nat.reduceLeDiff, Nat.reduceEqDiff, List.length_cons, List.length_nil, List.take_succ_cons, List.take_zero, List.drop_zero, List.drop_succ_cons, List.cons_append, List.nil_append, List.append_nil, DoneK, resAll, resOne, AV.under, AV.unders, and_true, true_and, and_self, or_true, true_or, cond_true, cond_false, Nat.le_refl, Nat.add_eq_left, Nat.left_eq_add, Nat.add_right_cancel_iff, Nat.add_left_cancel_iff, *]) | (refine GuardK_split (fun hb => ?_) (fun hb => ?_)) | (refine CondK_split (fun hb => ?_) (fun hb => ?_)) | (refine CodeK_regionD _ ?_) | (refine DGuardK_split (fun hb => ?_) (fun hb => ?_))
  refine ResK_ex (copied_spec ho2 (hr.ext (Ext.low h h.n)) (by omega)) fun v2 h2 hL => ?_
  obtain ⟨hf, he⟩ := hL
  simp only [Hp.n_withLow] at hf
  have he' := (Ext.low h h.n).trans he
  have hhn := he'.1
  repeat' first | (simp only [op_lenS, lenSV_str, op_lenV, lenV_slice, op_toInt, toIntV_int, op_iaddrS, RetK_inv, RetK_inv_exit, RetK_inv_ret, Nat.add_assoc, Nat.reduceEqDiff, Nat.reduceBEq, Nat.reduceBNe, Nat.le_min, Nat.le_add_right, Nat.min_self, Int.reduceBEq, Int.reduceBNe, Int.reduceLT, Int.reduceLE, Int.reduceEq, beq_self_eq_true, bne_self_eq_false, Bool.not_true, Bool.not_false, decide_true, decide_false, decide_eq_true_eq, Bool.and_eq_true, List.mapM_cons, List.mapM_nil, Option.bind_eq_bind, Option.pure_def, aeqK_agg, aeqK_scal, leavesK_nil, leavesK_cons, leafK_i, leafK_b, leafK_s, DrawK_nil, DrawK_cons, DrawK_guard, DResK_some, DGuardK_tt, DGuardK_ff, DGuardK_tf, DGuardK_ft, DGuardK_u, kept_load, Kept, KeptOne, closeOp, CO.quiet, CO.reads, CodeK_seq, CodeK_region, CodeK_skip, CodeK_ret, CodeK_exit, CodeK_cond, CodeK_block, CondK_true, CondK_false, RunK_cons, RunK_nil, RunK_guard, GuardK_tt, GuardK_ff, GuardK_tf, GuardK_ft, GuardK_u, ResK_some, RetK_nil, RetK_seq, RetK_seq_exit, RetK_seq_ret, RetK_block, RetK_block_ret, RetK_block_exit, RetK_block_exit_ne, op_mv, op_un, op_bin, op_load, loadV_ptr, op_faddr, faddrV_ptr, op_pick, pickV_true, pickV_false, pickV_bool, pickV_same, op_box, boxV_agg, op_call, op_build, op_ext, op_alloc, op_store, storeV_ptr, List.all_cons, List.all_nil, AV.one, AV.cells, Bool.and_self, Bool.and_true, Bool.true_and, put, CA.ev, List.set_cons_zero, List.set_cons_succ, List.getD_cons_zero, List.getD_cons_succ, abin, aint, aun, isShift, Option.map_some, Option.bind_some, List.map_cons, List.map_nil, Hp.n_withLow, Hp.n_push, Hp.n_set, Hp.low_withLow, Hp.low_push, Hp.low_set, Hp.get_push, Hp.get_set, Hp.get_withLow, readVar, readCell, readCells, writeCells, cut, fillA, Bool.false_eq_true, if_false, if_true, reduceIte, List.getElem?_cons_zero, List.getElem?_cons_succ, Nat.zero_add, Nat.add_zero, Nat.reduceAdd, Nat.reduceSub, Nat.reduceLT, Nat.reduceLeDiff, Nat.reduceEqDiff, List.length_cons, List.length_nil, List.take_succ_cons, List.take_zero, List.drop_zero, List.drop_succ_cons, List.cons_append, List.nil_append, List.append_nil, DoneK, resAll, resOne, AV.under, AV.unders, and_true, true_and, and_self, or_true, true_or, cond_true, cond_false, Nat.le_refl, Nat.add_eq_left, Nat.left_eq_add, Nat.add_right_cancel_iff, Nat.add_left_cancel_iff, op_litS, fillA, o3, r1, op_append, *]) | (refine GuardK_split (fun hb => ?_) (fun hb => ?_)) | (refine CondK_split (fun hb => ?_) (fun hb => ?_)) | (refine CodeK_regionD _ ?_) | (refine DGuardK_split (fun hb => ?_) (fun hb => ?_))
  refine ResK_ex (app_fresh (N := h.n) (ys := [x]) (hf.ext (Ext.push _ _)) (by simp; omega) ⟨_, _, rfl, .inl ⟨1, rfl, by simp⟩, .inr ⟨h2.n, 0, [.int .i64 x], false, rfl, by simp, by simp, rfl⟩⟩ (by simpa using hl)) fun v3 h3 hL => ?_
  obtain ⟨hf3, k1, k2⟩ := hL
  simp only [Hp.n_push] at k1
  have e3 : Ext h h3 := ⟨by omega, fun b hb => by rw [k2 b hb, Hp.get_push_ne _ _ _ (by omega), he'.2 b hb]⟩
  repeat' first | (simp only [op_lenS, lenSV_str, op_lenV, lenV_slice, op_toInt, toIntV_int, op_iaddrS, RetK_inv, RetK_inv_exit, RetK_inv_ret, Nat.add_assoc, Nat.reduceEqDiff, Nat.reduceBEq, Nat.reduceBNe, Nat.le_min, Nat.le_add_right, Nat.min_self, Int.reduceBEq, Int.reduceBNe, Int.reduceLT, Int.reduceLE, Int.reduceEq, beq_self_eq_true, bne_self_eq_false, Bool.not_true, Bool.not_false, decide_true, decide_false, decide_eq_true_eq, Bool.and_eq_true, List.mapM_cons, List.mapM_nil, Option.bind_eq_bind, Option.pure_def, aeqK_agg, aeqK_scal, leavesK_nil, leavesK_cons, leafK_i, leafK_b, leafK_s, DrawK_nil, DrawK_cons, DrawK_guard, DResK_some, DGuardK_tt, DGuardK_ff, DGuardK_tf, DGuardK_ft, DGuardK_u, kept_load, Kept, KeptOne, closeOp, CO.quiet, CO.reads, CodeK_seq, CodeK_region, CodeK_skip, CodeK_ret, CodeK_exit, CodeK_cond, CodeK_block, CondK_true, CondK_false, RunK_cons, RunK_nil, RunK_guard, GuardK_tt, GuardK_ff, GuardK_tf, GuardK_ft, GuardK_u, ResK_some, RetK_nil, RetK_seq, RetK_seq_exit, RetK_seq_ret, RetK_block, RetK_block_ret, RetK_block_exit, RetK_block_exit_ne, op_mv, op_un, op_bin, op_load, loadV_ptr, op_faddr, faddrV_ptr, op_pick, pickV_true, pickV_false, pickV_bool, pickV_same, op_box, boxV_agg, op_call, op_build, op_ext, op_alloc, op_store, storeV_ptr, List.all_cons, List.all_nil, AV.one, AV.cells, Bool.and_self, Bool.and_true, Bool.true_and, put, CA.ev, List.set_cons_zero, List.set_cons_succ, List.getD_cons_zero, List.getD_cons_succ, abin, aint, aun, isShift, Option.map_some, Option.bind_some, List.map_cons, List.map_nil, Hp.n_withLow, Hp.n_push, Hp.n_set, Hp.low_withLow, Hp.low_push, Hp.low_set, Hp.get_push, Hp.get_set, Hp.get_withLow, readVar, readCell, readCells, writeCells, cut, fillA, Bool.false_eq_true, if_false, if_true, reduceIte, List.getElem?_cons_zero, List.getElem?_cons_succ, Nat.zero_add, Nat.add_zero, Nat.reduceAdd, Nat.reduceSub, Nat.reduceLT, Nat.reduceLeDiff, Nat.reduceEqDiff, List.length_cons, List.length_nil, List.take_succ_cons, List.take_zero, List.drop_zero, List.drop_succ_cons, List.cons_append, List.nil_append, List.append_nil, DoneK, resAll, resOne, AV.under, AV.unders, and_true, true_and, and_self, or_true, true_or, cond_true, cond_false, Nat.le_refl, Nat.add_eq_left, Nat.left_eq_add, Nat.add_right_cancel_iff, Nat.add_left_cancel_iff, Option.some.injEq, *]) | (refine GuardK_split (fun hb => ?_) (fun hb => ?_)) | (refine CondK_split (fun hb => ?_) (fun hb => ?_)) | (refine CodeK_regionD _ ?_) | (refine DGuardK_split (fun hb => ?_) (fun hb => ?_))
  refine ⟨_, rfl, ?_⟩
  rw [settle_fst]
  exact ⟨fresh_settle hf3 id, ext_settle e3⟩

/-- What taking out hands back. -/
def outL (x : Int) (xs : List Int) : List Int := match idxI x xs with
  | none => []
  | some i => xs.take i ++ xs.drop (i + 1)
def outB (x : Int) (xs : List Int) : Bool := (idxI x xs).isSome
def OutR (h : AH) (x : Int) (xs : List Int) (v1 : AV) (h1 : AH) : Prop := ∃ v2, v1 = .tuple [v2, .bool (outB x xs)] ∧ Fresh h.n h1 v2 (outL x xs) ∧ Ext h h1
theorem out_any (ho : orc 40 = none) (ho1 : orc 76 = none) (ho2 : orc 75 = none) (ho3 : orc 80 = none) {h : AH} {v : AV} {xs : List Int} (hr : IntRow h v xs) (hl : xs.length * 8 ≤ 140737488355328) (x : Int) :
    ∃ v1 h1, acall orc T 40 [v, .int .i64 x] h = some (v1, h1) ∧ OutR h x xs v1 h1 := by
  unfold OutR outL outB
  cases hx : idxI x xs with
  | none => exact ⟨_, _, without_none ho ho1 hr hl hx, _, rfl, .inl ⟨rfl, rfl⟩, Ext.refl _⟩
  | some i => exact without_some ho ho1 ho2 ho3 hr hl hx

structure InvW (h0 : AH) (v : AV) (x : Int) (xs : List Int) (n : Nat) (tm : List AV) (h : AH) : Prop where
  len : tm.length = 28
  t0 : tm.getD 0 AV.undef = v
  t1 : tm.getD 1 AV.undef = .int .i64 x
  st : ∃ i : Nat, n = xs.length - i ∧ i ≤ xs.length ∧ tm.getD 6 AV.undef = .int .i64 (i : Int) ∧ idxI x xs = (idxI x (xs.drop i)).map (· + i)
  heap : h = h0.withLow h0.n

set_option maxRecDepth 100000 in
set_option maxHeartbeats 4000000 in
theorem refout_any (ho : orc 44 = none) (ho2 : orc 64 = none) {h : AH} {v : AV} {xs : List Int} (hr : IntRow h v xs) (hl : xs.length * 8 ≤ 140737488355328) (x : Int) :
    ∃ v1 h1, acall orc T 44 [v, .int .i64 x] h = some (v1, h1) ∧ OutR h x xs v1 h1 := by
  refine acall_facts (R := OutR h x xs) ho tbl44 ?_
  have hlen := hr.len
  dsimp only [List.length, List.replicate, List.append, List.cons_append, List.nil_append, Nat.reduceAdd, Nat.reduceSub]
  repeat' first | (simp only [op_lenS, lenSV_str, op_lenV, lenV_slice, op_toInt, toIntV_int, op_iaddrS, RetK_inv, RetK_inv_exit, RetK_inv_ret, Nat.add_assoc, Nat.reduceEqDiff, Nat.reduceBEq, Nat.reduceBNe, Nat.le_min, Nat.le_add_right, Nat.min_self, Int.reduceBEq, Int.reduceBNe, Int.reduceLT, Int.reduceLE, Int.reduceEq, beq_self_eq_true, bne_self_eq_false, Bool.not_true, Bool.not_false, decide_true, decide_false, decide_eq_true_eq, Bool.and_eq_true, List.mapM_cons, List.mapM_nil, Option.bind_eq_bind, Option.pure_def, aeqK_agg, aeqK_scal, leavesK_nil, leavesK_cons, leafK_i, leafK_b, leafK_s, DrawK_nil, DrawK_cons, DrawK_guard, DResK_some, DGuardK_tt, DGuardK_ff, DGuardK_tf, DGuardK_ft, DGuardK_u, kept_load, Kept, KeptOne, closeOp, CO.quiet, CO.reads, CodeK_seq, CodeK_region, CodeK_skip, CodeK_ret, CodeK_exit, CodeK_cond, CodeK_block, CondK_true, CondK_false, RunK_cons, RunK_nil, RunK_guard, GuardK_tt, GuardK_ff, GuardK_tf, GuardK_ft, GuardK_u, ResK_some, RetK_nil, RetK_seq, RetK_seq_exit, RetK_seq_ret, RetK_block, RetK_block_ret, RetK_block_exit, RetK_block_exit_ne, op_mv, op_un, op_bin, op_load, loadV_ptr, op_faddr, faddrV_ptr, op_pick, pickV_true, pickV_false, pickV_bool, pickV_same, op_box, boxV_agg, op_call, op_build, op_ext, op_alloc, op_store, storeV_ptr, List.all_cons, List.all_nil, AV.one, AV.cells, Bool.and_self, Bool.and_true, Bool.true_and, put, CA.ev, List.set_cons_zero, List.set_cons_succ, List.getD_cons_zero, List.getD_cons_succ, abin, aint, aun, isShift, Option.map_some, Option.bind_some, List.map_cons, List.map_nil, Hp.n_withLow, Hp.n_push, Hp.n_set, Hp.low_withLow, Hp.low_push, Hp.low_set, Hp.get_push, Hp.get_set, Hp.get_withLow, readVar, readCell, readCells, writeCells, cut, fillA, Bool.false_eq_true, if_false, if_true, reduceIte, List.getElem?_cons_zero, List.getElem?_cons_succ, Nat.zero_add, Nat.add_zero, Nat.reduceAdd, Nat.reduceSub, Nat.reduceLT, Nat.reduceLeDiff, Nat.reduceEqDiff, List.length_cons, List.length_nil, List.take_succ_cons, List.take_zero, List.drop_zero, List.drop_succ_cons, List.cons_append, List.nil_append, List.append_nil, DoneK, resAll, resOne, AV.under, AV.unders, and_true, true_and, and_self, or_true, true_or, cond_true, cond_false, Nat.le_refl, Nat.add_eq_left, Nat.left_eq_add, Nat.add_right_cancel_iff, Nat.add_left_cancel_iff, *]) | (refine GuardK_split (fun hb => ?_) (fun hb => ?_)) | (refine CondK_split (fun hb => ?_) (fun hb => ?_)) | (refine CodeK_regionD _ ?_) | (refine DGuardK_split (fun hb => ?_) (fun hb => ?_))
  refine CodeK_loop (InvW h v x xs) xs.length ?_ ?_
  · exact ⟨rfl, rfl, rfl, ⟨0, by omega, by omega, rfl, by cases hh : idxI x xs <;> simp [hh]⟩, rfl⟩
  intro n tm h' I
  obtain ⟨i, hn, hi, e6, hidx⟩ := I.st
  have el := I.len
  have e0 := I.t0
  have e1 := I.t1
  have hh := I.heap
  subst hh
  by_cases hlt : i < xs.length
  case neg =>
    have l1 : decide ((i : Int) < (xs.length : Int)) = false := by simp; omega
    rw [List.drop_of_length_le (by omega)] at hidx
    have hnone : idxI x xs = none := by rw [hidx]; rfl
    have hB : outB x xs = false := by rw [outB, hnone]; rfl
    have hL : outL x xs = [] := by rw [outL, hnone]
    repeat' first | (simp only [op_lenS, lenSV_str, op_lenV, lenV_slice, op_toInt, toIntV_int, op_iaddrS, RetK_inv, RetK_inv_exit, RetK_inv_ret, Nat.add_assoc, Nat.reduceEqDiff, Nat.reduceBEq, Nat.reduceBNe, Nat.le_min, Nat.le_add_right, Nat.min_self, Int.reduceBEq, Int.reduceBNe, Int.reduceLT, Int.reduceLE, Int.reduceEq, beq_self_eq_true, bne_self_eq_false, Bool.not_true, Bool.not_false, decide_true, decide_false, decide_eq_true_eq, Bool.and_eq_true, List.mapM_cons, List.mapM_nil, Option.bind_eq_bind, Option.pure_def, aeqK_agg, aeqK_scal, leavesK_nil, leavesK_cons, leafK_i, leafK_b, leafK_s, DrawK_nil, DrawK_cons, DrawK_guard, DResK_some, DGuardK_tt, DGuardK_ff, DGuardK_tf, DGuardK_ft, DGuardK_u, kept_load, Kept, KeptOne, closeOp, CO.quiet, CO.reads, CodeK_seq, CodeK_region, CodeK_skip, CodeK_ret, CodeK_exit, CodeK_cond, CodeK_block, CondK_true, CondK_false, RunK_cons, RunK_nil, RunK_guard, GuardK_tt, GuardK_ff, GuardK_tf, GuardK_ft, GuardK_u, ResK_some, RetK_nil, RetK_seq, RetK_seq_exit, RetK_seq_ret, RetK_block, RetK_block_ret, RetK_block_exit, RetK_block_exit_ne, op_mv, op_un, op_bin, op_load, loadV_ptr, op_faddr, faddrV_ptr, op_pick, pickV_true, pickV_false, pickV_bool, pickV_same, op_box, boxV_agg, op_call, op_build, op_ext, op_alloc, op_store, storeV_ptr, List.all_cons, List.all_nil, AV.one, AV.cells, Bool.and_self, Bool.and_true, Bool.true_and, put, CA.ev, List.set_cons_zero, List.set_cons_succ, List.getD_cons_zero, List.getD_cons_succ, abin, aint, aun, isShift, Option.map_some, Option.bind_some, List.map_cons, List.map_nil, Hp.n_withLow, Hp.n_push, Hp.n_set, Hp.low_withLow, Hp.low_push, Hp.low_set, Hp.get_push, Hp.get_set, Hp.get_withLow, readVar, readCell, readCells, writeCells, cut, fillA, Bool.false_eq_true, if_false, if_true, reduceIte, List.getElem?_cons_zero, List.getElem?_cons_succ, Nat.zero_add, Nat.add_zero, Nat.reduceAdd, Nat.reduceSub, Nat.reduceLT, Nat.reduceLeDiff, Nat.reduceEqDiff, List.length_cons, List.length_nil, List.take_succ_cons, List.take_zero, List.drop_zero, List.drop_succ_cons, List.cons_append, List.nil_append, List.append_nil, DoneK, resAll, resOne, AV.under, AV.unders, and_true, true_and, and_self, or_true, true_or, cond_true, cond_false, Nat.le_refl, Nat.add_eq_left, Nat.left_eq_add, Nat.add_right_cancel_iff, Nat.add_left_cancel_iff, el, e0, e1, e6, hlen, l1, Option.some.injEq, tmset_self, tmset_ne, List.length_set, Nat.reduceBEq, Nat.reduceLT, *]) | (refine GuardK_split (fun hb => ?_) (fun hb => ?_)) | (refine CondK_split (fun hb => ?_) (fun hb => ?_)) | (refine CodeK_regionD _ ?_) | (refine DGuardK_split (fun hb => ?_) (fun hb => ?_))
    refine ⟨_, rfl, ?_⟩
    rw [settle_fst]
    unfold OutR
    rw [hB, hL]
    exact ⟨_, rfl, .inl ⟨rfl, rfl⟩, ext_settle (Ext.low _ _)⟩
  case pos =>
    have l1 : decide ((i : Int) < (xs.length : Int)) = true := by simp; omega
    have hx := List.getElem?_eq_getElem hlt
    have hdr : xs.drop i = xs[i]'hlt :: xs.drop (i + 1) := by rw [List.drop_eq_getElem_cons hlt]
    generalize xs[i]'hlt = y at hx hdr
    obtain ⟨b, o, cells, ro, ha, g1, g2, _⟩ := hr.at hx
    have w1 : IntKind.wrap .i64 ((i : Int) + 1) = ((i + 1 : Nat) : Int) := by rw [wrap_i64 (by omega) (by omega)]; omega
    cases hyx : (y == x) with
    | false =>
      have hy : ¬ x = y := by intro e; subst e; simp at hyx
      rw [hdr] at hidx
      simp only [idxI, hy, if_false, Option.map_map] at hidx
      repeat' first | (simp only [op_lenS, lenSV_str, op_lenV, lenV_slice, op_toInt, toIntV_int, op_iaddrS, RetK_inv, RetK_inv_exit, RetK_inv_ret, Nat.add_assoc, Nat.reduceEqDiff, Nat.reduceBEq, Nat.reduceBNe, Nat.le_min, Nat.le_add_right, Nat.min_self, Int.reduceBEq, Int.reduceBNe, Int.reduceLT, Int.reduceLE, Int.reduceEq, beq_self_eq_true, bne_self_eq_false, Bool.not_true, Bool.not_false, decide_true, decide_false, decide_eq_true_eq, Bool.and_eq_true, List.mapM_cons, List.mapM_nil, Option.bind_eq_bind, Option.pure_def, aeqK_agg, aeqK_scal, leavesK_nil, leavesK_cons, leafK_i, leafK_b, leafK_s, DrawK_nil, DrawK_cons, DrawK_guard, DResK_some, DGuardK_tt, DGuardK_ff, DGuardK_tf, DGuardK_ft, DGuardK_u, kept_load, Kept, KeptOne, closeOp, CO.quiet, CO.reads, CodeK_seq, CodeK_region, CodeK_skip, CodeK_ret, CodeK_exit, CodeK_cond, CodeK_block, CondK_true, CondK_false, RunK_cons, RunK_nil, RunK_guard, GuardK_tt, GuardK_ff, GuardK_tf, GuardK_ft, GuardK_u, ResK_some, RetK_nil, RetK_seq, RetK_seq_exit, RetK_seq_ret, RetK_block, RetK_block_ret, RetK_block_exit, RetK_block_exit_ne, op_mv, op_un, op_bin, op_load, loadV_ptr, op_faddr, faddrV_ptr, op_pick, pickV_true, pickV_false, pickV_bool, pickV_same, op_box, boxV_agg, op_call, op_build, op_ext, op_alloc, op_store, storeV_ptr, List.all_cons, List.all_nil, AV.one, AV.cells, Bool.and_self, Bool.and_true, Bool.true_and, put, CA.ev, List.set_cons_zero, List.set_cons_succ, List.getD_cons_zero, List.getD_cons_succ, abin, aint, aun, isShift, Option.map_some, Option.bind_some, List.map_cons, List.map_nil, Hp.n_withLow, Hp.n_push, Hp.n_set, Hp.low_withLow, Hp.low_push, Hp.low_set, Hp.get_push, Hp.get_set, Hp.get_withLow, readVar, readCell, readCells, writeCells, cut, fillA, Bool.false_eq_true, if_false, if_true, reduceIte, List.getElem?_cons_zero, List.getElem?_cons_succ, Nat.zero_add, Nat.add_zero, Nat.reduceAdd, Nat.reduceSub, Nat.reduceLT, Nat.reduceLeDiff, Nat.reduceEqDiff, List.length_cons, List.length_nil, List.take_succ_cons, List.take_zero, List.drop_zero, List.drop_succ_cons, List.cons_append, List.nil_append, List.append_nil, DoneK, resAll, resOne, AV.under, AV.unders, and_true, true_and, and_self, or_true, true_or, cond_true, cond_false, Nat.le_refl, Nat.add_eq_left, Nat.left_eq_add, Nat.add_right_cancel_iff, Nat.add_left_cancel_iff, el, e0, e1, e6, hlen, l1, ha, g1, g2, w1, hyx, tmset_self, tmset_ne, List.length_set, Nat.reduceBEq, Nat.reduceLT, *]) | (refine GuardK_split (fun hb => ?_) (fun hb => ?_)) | (refine CondK_split (fun hb => ?_) (fun hb => ?_)) | (refine CodeK_regionD _ ?_) | (refine DGuardK_split (fun hb => ?_) (fun hb => ?_))
      refine ⟨xs.length - (i + 1), by omega, by simp only [List.length_set, el], by simp only [tmset_self, tmset_ne, List.length_set, Nat.reduceBEq, Nat.reduceLT, el, e0], by simp only [tmset_self, tmset_ne, List.length_set, Nat.reduceBEq, Nat.reduceLT, el, e1], ⟨i + 1, rfl, by omega, by simp only [tmset_self, tmset_ne, List.length_set, Nat.reduceBEq, Nat.reduceLT, el], ?_⟩, rfl⟩
      rw [hidx]
      congr 1
      funext k
      simp; omega
    | true =>
      have hy : y = x := by simpa using hyx
      subst hy
      have hsome : idxI y xs = some i := by rw [hidx, hdr]; simp [idxI]
      have hB : outB y xs = true := by rw [outB, hsome]; rfl
      have hL : outL y xs = xs.take i ++ xs.drop (i + 1) := by rw [outL, hsome]
      obtain ⟨va, s1, hra⟩ := slc_hi hr (k := i) (by omega)
      obtain ⟨vb, s2, hrb⟩ := slc_lo hr (k := i + 1) (by omega)
      repeat' first | (simp only [op_lenS, lenSV_str, op_lenV, lenV_slice, op_toInt, toIntV_int, op_iaddrS, RetK_inv, RetK_inv_exit, RetK_inv_ret, Nat.add_assoc, Nat.reduceEqDiff, Nat.reduceBEq, Nat.reduceBNe, Nat.le_min, Nat.le_add_right, Nat.min_self, Int.reduceBEq, Int.reduceBNe, Int.reduceLT, Int.reduceLE, Int.reduceEq, beq_self_eq_true, bne_self_eq_false, Bool.not_true, Bool.not_false, decide_true, decide_false, decide_eq_true_eq, Bool.and_eq_true, List.mapM_cons, List.mapM_nil, Option.bind_eq_bind, Option.pure_def, aeqK_agg, aeqK_scal, leavesK_nil, leavesK_cons, leafK_i, leafK_b, leafK_s, DrawK_nil, DrawK_cons, DrawK_guard, DResK_some, DGuardK_tt, DGuardK_ff, DGuardK_tf, DGuardK_ft, DGuardK_u, kept_load, Kept, KeptOne, closeOp, CO.quiet, CO.reads, CodeK_seq, CodeK_region, CodeK_skip, CodeK_ret, CodeK_exit, CodeK_cond, CodeK_block, CondK_true, CondK_false, RunK_cons, RunK_nil, RunK_guard, GuardK_tt, GuardK_ff, GuardK_tf, GuardK_ft, GuardK_u, ResK_some, RetK_nil, RetK_seq, RetK_seq_exit, RetK_seq_ret, RetK_block, RetK_block_ret, RetK_block_exit, RetK_block_exit_ne, op_mv, op_un, op_bin, op_load, loadV_ptr, op_faddr, faddrV_ptr, op_pick, pickV_true, pickV_false, pickV_bool, pickV_same, op_box, boxV_agg, op_call, op_build, op_ext, op_alloc, op_store, storeV_ptr, List.all_cons, List.all_nil, AV.one, AV.cells, Bool.and_self, Bool.and_true, Bool.true_and, put, CA.ev, List.set_cons_zero, List.set_cons_succ, List.getD_cons_zero, List.getD_cons_succ, abin, aint, aun, isShift, Option.map_some, Option.bind_some, List.map_cons, List.map_nil, Hp.n_withLow, Hp.n_push, Hp.n_set, Hp.low_withLow, Hp.low_push, Hp.low_set, Hp.get_push, Hp.get_set, Hp.get_withLow, readVar, readCell, readCells, writeCells, cut, fillA, Bool.false_eq_true, if_false, if_true, reduceIte, List.getElem?_cons_zero, List.getElem?_cons_succ, Nat.zero_add, Nat.add_zero, Nat.reduceAdd, Nat.reduceSub, Nat.reduceLT, Nat.reduceLeDiff, Nat.reduceEqDiff, List.length_cons, List.length_nil, List.take_succ_cons, List.take_zero, List.drop_zero, List.drop_succ_cons, List.cons_append, List.nil_append, List.append_nil, DoneK, resAll, resOne, AV.under, AV.unders, and_true, true_and, and_self, or_true, true_or, cond_true, cond_false, Nat.le_refl, Nat.add_eq_left, Nat.left_eq_add, Nat.add_right_cancel_iff, Nat.add_left_cancel_iff, el, e0, e1, e6, hlen, l1, ha, g1, g2, w1, hyx, op_slcV, s1, s2, tmset_self, tmset_ne, List.length_set, Nat.reduceBEq, Nat.reduceLT, *]) | (refine GuardK_split (fun hb => ?_) (fun hb => ?_)) | (refine CondK_split (fun hb => ?_) (fun hb => ?_)) | (refine CodeK_regionD _ ?_) | (refine DGuardK_split (fun hb => ?_) (fun hb => ?_))
      refine DResK_ex (copied_spec ho2 (hra.ext (Ext.low h h.n)) (by rw [List.length_take]; omega)) fun v2 h2 hL2 => ?_
      obtain ⟨hf, he⟩ := hL2
      simp only [Hp.n_withLow] at hf
      have he' := (Ext.low h h.n).trans he
      repeat' first | (simp only [op_lenS, lenSV_str, op_lenV, lenV_slice, op_toInt, toIntV_int, op_iaddrS, RetK_inv, RetK_inv_exit, RetK_inv_ret, Nat.add_assoc, Nat.reduceEqDiff, Nat.reduceBEq, Nat.reduceBNe, Nat.le_min, Nat.le_add_right, Nat.min_self, Int.reduceBEq, Int.reduceBNe, Int.reduceLT, Int.reduceLE, Int.reduceEq, beq_self_eq_true, bne_self_eq_false, Bool.not_true, Bool.not_false, decide_true, decide_false, decide_eq_true_eq, Bool.and_eq_true, List.mapM_cons, List.mapM_nil, Option.bind_eq_bind, Option.pure_def, aeqK_agg, aeqK_scal, leavesK_nil, leavesK_cons, leafK_i, leafK_b, leafK_s, DrawK_nil, DrawK_cons, DrawK_guard, DResK_some, DGuardK_tt, DGuardK_ff, DGuardK_tf, DGuardK_ft, DGuardK_u, kept_load, Kept, KeptOne, closeOp, CO.quiet, CO.reads, CodeK_seq, CodeK_region, CodeK_skip, CodeK_ret, CodeK_exit, CodeK_cond, CodeK_block, CondK_true, CondK_false, RunK_cons, RunK_nil, RunK_guard, GuardK_tt, GuardK_ff, GuardK_tf, GuardK_ft, GuardK_u, ResK_some, RetK_nil, RetK_seq, RetK_seq_exit, RetK_seq_ret, RetK_block, RetK_block_ret, RetK_block_exit, RetK_block_exit_ne, op_mv, op_un, op_bin, op_load, loadV_ptr, op_faddr, faddrV_ptr, op_pick, pickV_true, pickV_false, pickV_bool, pickV_same, op_box, boxV_agg, op_call, op_build, op_ext, op_alloc, op_store, storeV_ptr, List.all_cons, List.all_nil, AV.one, AV.cells, Bool.and_self, Bool.and_true, Bool.true_and, put, CA.ev, List.set_cons_zero, List.set_cons_succ, List.getD_cons_zero, List.getD_cons_succ, abin, aint, aun, isShift, Option.map_some, Option.bind_some, List.map_cons, List.map_nil, Hp.n_withLow, Hp.n_push, Hp.n_set, Hp.low_withLow, Hp.low_push, Hp.low_set, Hp.get_push, Hp.get_set, Hp.get_withLow, readVar, readCell, readCells, writeCells, cut, fillA, Bool.false_eq_true, if_false, if_true, reduceIte, List.getElem?_cons_zero, List.getElem?_cons_succ, Nat.zero_add, Nat.add_zero, Nat.reduceAdd, Nat.reduceSub, Nat.reduceLT, Nat.reduceLeDiff, Nat.reduceEqDiff, List.length_cons, List.length_nil, List.take_succ_cons, List.take_zero, List.drop_zero, List.drop_succ_cons, List.cons_append, List.nil_append, List.append_nil, DoneK, resAll, resOne, AV.under, AV.unders, and_true, true_and, and_self, or_true, true_or, cond_true, cond_false, Nat.le_refl, Nat.add_eq_left, Nat.left_eq_add, Nat.add_right_cancel_iff, Nat.add_left_cancel_iff, el, e0, e1, e6, w1, op_slcV, s2, op_append, tmset_self, tmset_ne, List.length_set, Nat.reduceBEq, Nat.reduceLT, *]) | (refine GuardK_split (fun hb => ?_) (fun hb => ?_)) | (refine CondK_split (fun hb => ?_) (fun hb => ?_)) | (refine CodeK_regionD _ ?_) | (refine DGuardK_split (fun hb => ?_) (fun hb => ?_))
      refine DResK_ex (app_fresh (N := h.n) hf he'.1 (hrb.ext he') (by rw [List.length_take, List.length_drop]; omega)) fun v3 h3 hL2 => ?_
      obtain ⟨hf3, k1, k2⟩ := hL2
      have hhn := he'.1
      have e3 : Ext h h3 := ⟨by omega, fun b hb => by rw [k2 b hb, he'.2 b hb]⟩
      repeat' first | (simp only [op_lenS, lenSV_str, op_lenV, lenV_slice, op_toInt, toIntV_int, op_iaddrS, RetK_inv, RetK_inv_exit, RetK_inv_ret, Nat.add_assoc, Nat.reduceEqDiff, Nat.reduceBEq, Nat.reduceBNe, Nat.le_min, Nat.le_add_right, Nat.min_self, Int.reduceBEq, Int.reduceBNe, Int.reduceLT, Int.reduceLE, Int.reduceEq, beq_self_eq_true, bne_self_eq_false, Bool.not_true, Bool.not_false, decide_true, decide_false, decide_eq_true_eq, Bool.and_eq_true, List.mapM_cons, List.mapM_nil, Option.bind_eq_bind, Option.pure_def, aeqK_agg, aeqK_scal, leavesK_nil, leavesK_cons, leafK_i, leafK_b, leafK_s, DrawK_nil, DrawK_cons, DrawK_guard, DResK_some, DGuardK_tt, DGuardK_ff, DGuardK_tf, DGuardK_ft, DGuardK_u, kept_load, Kept, KeptOne, closeOp, CO.quiet, CO.reads, CodeK_seq, CodeK_region, CodeK_skip, CodeK_ret, CodeK_exit, CodeK_cond, CodeK_block, CondK_true, CondK_false, RunK_cons, RunK_nil, RunK_guard, GuardK_tt, GuardK_ff, GuardK_tf, GuardK_ft, GuardK_u, ResK_some, RetK_nil, RetK_seq, RetK_seq_exit, RetK_seq_ret, RetK_block, RetK_block_ret, RetK_block_exit, RetK_block_exit_ne, op_mv, op_un, op_bin, op_load, loadV_ptr, op_faddr, faddrV_ptr, op_pick, pickV_true, pickV_false, pickV_bool, pickV_same, op_box, boxV_agg, op_call, op_build, op_ext, op_alloc, op_store, storeV_ptr, List.all_cons, List.all_nil, AV.one, AV.cells, Bool.and_self, Bool.and_true, Bool.true_and, put, CA.ev, List.set_cons_zero, List.set_cons_succ, List.getD_cons_zero, List.getD_cons_succ, abin, aint, aun, isShift, Option.map_some, Option.bind_some, List.map_cons, List.map_nil, Hp.n_withLow, Hp.n_push, Hp.n_set, Hp.low_withLow, Hp.low_push, Hp.low_set, Hp.get_push, Hp.get_set, Hp.get_withLow, readVar, readCell, readCells, writeCells, cut, fillA, Bool.false_eq_true, if_false, if_true, reduceIte, List.getElem?_cons_zero, List.getElem?_cons_succ, Nat.zero_add, Nat.add_zero, Nat.reduceAdd, Nat.reduceSub, Nat.reduceLT, Nat.reduceLeDiff, Nat.reduceEqDiff, List.length_cons, List.length_nil, List.take_succ_cons, List.take_zero, List.drop_zero, List.drop_succ_cons, List.cons_append, List.nil_append, List.append_nil, DoneK, resAll, resOne, AV.under, AV.unders, and_true, true_and, and_self, or_true, true_or, cond_true, cond_false, Nat.le_refl, Nat.add_eq_left, Nat.left_eq_add, Nat.add_right_cancel_iff, Nat.add_left_cancel_iff, el, e0, e1, e6, Option.some.injEq, tmset_self, tmset_ne, List.length_set, Nat.reduceBEq, Nat.reduceLT, *]) | (refine GuardK_split (fun hb => ?_) (fun hb => ?_)) | (refine CondK_split (fun hb => ?_) (fun hb => ?_)) | (refine CodeK_regionD _ ?_) | (refine DGuardK_split (fun hb => ?_) (fun hb => ?_))
      refine ⟨_, rfl, ?_⟩
      rw [settle_fst]
      unfold OutR
      rw [hB, hL]
      exact ⟨_, rfl, fresh_settle hf3 (by simp [AV.under, AV.unders]), ext_settle e3⟩

/-! ### Dealing -/
def DealR2 (h : AH) (H N : Nat) (xs : List Int) (v1 : AV) (h1 : AH) : Prop :=
  ∃ (g : AV) (b0 : Nat) (own : Nat → Nat) (vs : List AV), v1 = .tuple [.slice (some (b0, 0)) H (.exact H), g, .int .i64 0] ∧ Ext h h1 ∧ h.n ≤ b0 ∧ b0 < h1.n ∧ own b0 = H ∧ h1.get b0 = some (.cells vs false) ∧ vs.length = H ∧
    (∀ j, j < H → ∃ vj, vs[j]? = some vj ∧ Fr h.n h1 own j vj (dealt H xs N j)) ∧ Fr h.n h1 own (H + 1) g (xs.drop N)

set_option maxRecDepth 100000 in
set_option maxHeartbeats 8000000 in
theorem deal_ok2 (ho : orc 42 = none) {h : AH} {v : AV} {xs : List Int} (hr : IntRow h v xs) (hl : xs.length * 8 ≤ 140737488355328) {H E : Nat} (hH : 0 < H) (hH2 : H ≤ 64) (hE : E ≤ xs.length / H) :
    ∃ v1 h1, acall orc T 42 [v, .int .i64 (H : Int), .int .i64 (E : Int)] h = some (v1, h1) ∧ DealR2 h H (H * E) xs v1 h1 := by
  refine acall_facts (R := DealR2 h H (H * E) xs) ho tbl42 ?_
  have hlen := hr.len
  have hN : H * E ≤ xs.length := Nat.le_trans (Nat.mul_le_mul_left H hE) (Nat.mul_div_le _ _)
  have l1 : decide ((H : Int) < 1) = false := by simp; omega
  have l2 : decide ((64 : Int) < (H : Int)) = false := by simp; omega
  have l3 : decide ((E : Int) < 0) = false := by simp
  have n0 : ((H : Int) = 0) = False := by simp; omega
  have ht : (xs.length : Int).tdiv (H : Int) = ((xs.length / H : Nat) : Int) := by rw [Int.tdiv_eq_ediv_of_nonneg (by omega)]; rfl
  have hdl : xs.length / H ≤ xs.length := Nat.div_le_self _ _
  have w1 : IntKind.wrap .i64 ((xs.length / H : Nat) : Int) = ((xs.length / H : Nat) : Int) := wrap_i64 (by omega) (by omega)
  have l4 : decide (((xs.length / H : Nat) : Int) < (E : Int)) = false := by rw [decide_eq_false_iff_not]; omega
  have w2 : IntKind.wrap .i64 ((H : Int) * (E : Int)) = ((H * E : Nat) : Int) := by
    rw [← Int.natCast_mul, wrap_i64 (by omega) (by omega)]
  obtain ⟨v36, s1, hr36⟩ := slc_hi hr hN
  obtain ⟨v63, s2, hr63⟩ := slc_lo hr hN
  have hl36 := hr36.len
  have htl : (xs.take (H * E)).length = H * E := by rw [List.length_take]; omega
  rw [htl] at hl36
  have mk := fun hx : AH => mkSV_at (bytes := 24) (zero := [AV.slice none 0 (.exact 0)]) (k := .i64) (k' := .i64) (l := H) (c := H) (h := hx) (Nat.le_refl _) (by omega) (by omega)
  dsimp only [List.length, List.replicate, List.append, List.cons_append, List.nil_append, Nat.reduceAdd, Nat.reduceSub]
  repeat' first | (simp only [op_lenS, lenSV_str, op_lenV, lenV_slice, op_toInt, toIntV_int, op_iaddrS, RetK_inv, RetK_inv_exit, RetK_inv_ret, Nat.add_assoc, Nat.reduceEqDiff, Nat.reduceBEq, Nat.reduceBNe, Nat.le_min, Nat.le_add_right, Nat.min_self, Int.reduceBEq, Int.reduceBNe, Int.reduceLT, Int.reduceLE, Int.reduceEq, beq_self_eq_true, bne_self_eq_false, Bool.not_true, Bool.not_false, decide_true, decide_false, decide_eq_true_eq, Bool.and_eq_true, List.mapM_cons, List.mapM_nil, Option.bind_eq_bind, Option.pure_def, aeqK_agg, aeqK_scal, leavesK_nil, leavesK_cons, leafK_i, leafK_b, leafK_s, DrawK_nil, DrawK_cons, DrawK_guard, DResK_some, DGuardK_tt, DGuardK_ff, DGuardK_tf, DGuardK_ft, DGuardK_u, kept_load, Kept, KeptOne, closeOp, CO.quiet, CO.reads, CodeK_seq, CodeK_region, CodeK_skip, CodeK_ret, CodeK_exit, CodeK_cond, CodeK_block, CondK_true, CondK_false, RunK_cons, RunK_nil, RunK_guard, GuardK_tt, GuardK_ff, GuardK_tf, GuardK_ft, GuardK_u, ResK_some, RetK_nil, RetK_seq, RetK_seq_exit, RetK_seq_ret, RetK_block, RetK_block_ret, RetK_block_exit, RetK_block_exit_ne, op_mv, op_un, op_bin, op_load, loadV_ptr, op_faddr, faddrV_ptr, op_pick, pickV_true, pickV_false, pickV_bool, pickV_same, op_box, boxV_agg, op_call, op_build, op_ext, op_alloc, op_store, storeV_ptr, List.all_cons, List.all_nil, AV.one, AV.cells, Bool.and_self, Bool.and_true, Bool.true_and, put, CA.ev, List.set_cons_zero, List.set_cons_succ, List.getD_cons_zero, List.getD_cons_succ, abin, aint, aun, isShift, Option.map_some, Option.bind_some, List.map_cons, List.map_nil, Hp.n_withLow, Hp.n_push, Hp.n_set, Hp.low_withLow, Hp.low_push, Hp.low_set, Hp.get_push, Hp.get_set, Hp.get_withLow, readVar, readCell, readCells, writeCells, cut, fillA, Bool.false_eq_true, if_false, if_true, reduceIte, List.getElem?_cons_zero, List.getElem?_cons_succ, Nat.zero_add, Nat.add_zero, Nat.reduceAdd, Nat.reduceSub, Nat.reduceLT, Nat.reduceLeDiff, Nat.reduceEqDiff, List.length_cons, List.length_nil, List.take_succ_cons, List.take_zero, List.drop_zero, List.drop_succ_cons, List.cons_append, List.nil_append, List.append_nil, DoneK, resAll, resOne, AV.under, AV.unders, and_true, true_and, and_self, or_true, true_or, cond_true, cond_false, Nat.le_refl, Nat.add_eq_left, Nat.left_eq_add, Nat.add_right_cancel_iff, Nat.add_left_cancel_iff, hlen, hl36, l1, l2, l3, l4, w1, w2, n0, ht, op_mkS, mk, op_slcV, s1, s2, *]) | (refine GuardK_split (fun hb => ?_) (fun hb => ?_)) | (refine CondK_split (fun hb => ?_) (fun hb => ?_)) | (refine CodeK_regionD _ ?_) | (refine DGuardK_split (fun hb => ?_) (fun hb => ?_))
  generalize hNN : H * E = N at *
  refine CodeK_loop (InvD h h.n H N v36 v E xs) N ?_ ?_
  · refine ⟨rfl, rfl, rfl, rfl, rfl, rfl, rfl, (Ext.low h h.n).trans (Ext.push _ _), by simp, 0, fun b => H, Fs.reps [.slice none 0 (.exact 0)] H, by omega, by omega, rfl, rfl, fun b _ => Nat.le_refl _, ?_, reps_length _ _, fun j hj => ⟨_, reps_at _ _ _ hj, .inl ⟨rfl, rfl⟩⟩⟩
    simp only [Hp.get_push, Hp.n_withLow, if_true]
  · intro n tm h' I
    obtain ⟨i, own, vs, hn, hi, e38, hob, hoN, hg0, hvl, hrow⟩ := I.st
    have el := I.len
    have e0 := I.t0
    have e1 := I.t1
    have e2 := I.t2
    have e9 := I.t9
    have e36 := I.t36
    have e37 := I.t37
    have hext := I.ext
    have hbn := I.bn
    by_cases hlt : i < N
    case neg =>
      have hiN : i = N := by omega
      subst hiN
      have m1 : decide ((i : Int) < (i : Int)) = false := by simp
      repeat' first | (simp only [op_lenS, lenSV_str, op_lenV, lenV_slice, op_toInt, toIntV_int, op_iaddrS, RetK_inv, RetK_inv_exit, RetK_inv_ret, Nat.add_assoc, Nat.reduceEqDiff, Nat.reduceBEq, Nat.reduceBNe, Nat.le_min, Nat.le_add_right, Nat.min_self, Int.reduceBEq, Int.reduceBNe, Int.reduceLT, Int.reduceLE, Int.reduceEq, beq_self_eq_true, bne_self_eq_false, Bool.not_true, Bool.not_false, decide_true, decide_false, decide_eq_true_eq, Bool.and_eq_true, List.mapM_cons, List.mapM_nil, Option.bind_eq_bind, Option.pure_def, aeqK_agg, aeqK_scal, leavesK_nil, leavesK_cons, leafK_i, leafK_b, leafK_s, DrawK_nil, DrawK_cons, DrawK_guard, DResK_some, DGuardK_tt, DGuardK_ff, DGuardK_tf, DGuardK_ft, DGuardK_u, kept_load, Kept, KeptOne, closeOp, CO.quiet, CO.reads, CodeK_seq, CodeK_region, CodeK_skip, CodeK_ret, CodeK_exit, CodeK_cond, CodeK_block, CondK_true, CondK_false, RunK_cons, RunK_nil, RunK_guard, GuardK_tt, GuardK_ff, GuardK_tf, GuardK_ft, GuardK_u, ResK_some, RetK_nil, RetK_seq, RetK_seq_exit, RetK_seq_ret, RetK_block, RetK_block_ret, RetK_block_exit, RetK_block_exit_ne, op_mv, op_un, op_bin, op_load, loadV_ptr, op_faddr, faddrV_ptr, op_pick, pickV_true, pickV_false, pickV_bool, pickV_same, op_box, boxV_agg, op_call, op_build, op_ext, op_alloc, op_store, storeV_ptr, List.all_cons, List.all_nil, AV.one, AV.cells, Bool.and_self, Bool.and_true, Bool.true_and, put, CA.ev, List.set_cons_zero, List.set_cons_succ, List.getD_cons_zero, List.getD_cons_succ, abin, aint, aun, isShift, Option.map_some, Option.bind_some, List.map_cons, List.map_nil, Hp.n_withLow, Hp.n_push, Hp.n_set, Hp.low_withLow, Hp.low_push, Hp.low_set, Hp.get_push, Hp.get_set, Hp.get_withLow, readVar, readCell, readCells, writeCells, cut, fillA, Bool.false_eq_true, if_false, if_true, reduceIte, List.getElem?_cons_zero, List.getElem?_cons_succ, Nat.zero_add, Nat.add_zero, Nat.reduceAdd, Nat.reduceSub, Nat.reduceLT, Nat.reduceLeDiff, Nat.reduceEqDiff, List.length_cons, List.length_nil, List.take_succ_cons, List.take_zero, List.drop_zero, List.drop_succ_cons, List.cons_append, List.nil_append, List.append_nil, DoneK, resAll, resOne, AV.under, AV.unders, and_true, true_and, and_self, or_true, true_or, cond_true, cond_false, Nat.le_refl, Nat.add_eq_left, Nat.left_eq_add, Nat.add_right_cancel_iff, Nat.add_left_cancel_iff, el, e0, e1, e2, e9, e36, e37, e38, m1, w2, op_slcV, s2, op_append, tmset_self, tmset_ne, List.length_set, Nat.reduceBEq, Nat.reduceLT, *]) | (refine GuardK_split (fun hb => ?_) (fun hb => ?_)) | (refine CondK_split (fun hb => ?_) (fun hb => ?_)) | (refine CodeK_regionD _ ?_) | (refine DGuardK_split (fun hb => ?_) (fun hb => ?_))
      refine ResK_ex (app_nil (hr63.ext hext) (by rw [List.length_drop]; omega)) fun v2 h2 hL => ?_
      obtain ⟨hf, he, _⟩ := hL
      have he' := hext.trans he
      repeat' first | (simp only [op_lenS, lenSV_str, op_lenV, lenV_slice, op_toInt, toIntV_int, op_iaddrS, RetK_inv, RetK_inv_exit, RetK_inv_ret, Nat.add_assoc, Nat.reduceEqDiff, Nat.reduceBEq, Nat.reduceBNe, Nat.le_min, Nat.le_add_right, Nat.min_self, Int.reduceBEq, Int.reduceBNe, Int.reduceLT, Int.reduceLE, Int.reduceEq, beq_self_eq_true, bne_self_eq_false, Bool.not_true, Bool.not_false, decide_true, decide_false, decide_eq_true_eq, Bool.and_eq_true, List.mapM_cons, List.mapM_nil, Option.bind_eq_bind, Option.pure_def, aeqK_agg, aeqK_scal, leavesK_nil, leavesK_cons, leafK_i, leafK_b, leafK_s, DrawK_nil, DrawK_cons, DrawK_guard, DResK_some, DGuardK_tt, DGuardK_ff, DGuardK_tf, DGuardK_ft, DGuardK_u, kept_load, Kept, KeptOne, closeOp, CO.quiet, CO.reads, CodeK_seq, CodeK_region, CodeK_skip, CodeK_ret, CodeK_exit, CodeK_cond, CodeK_block, CondK_true, CondK_false, RunK_cons, RunK_nil, RunK_guard, GuardK_tt, GuardK_ff, GuardK_tf, GuardK_ft, GuardK_u, ResK_some, RetK_nil, RetK_seq, RetK_seq_exit, RetK_seq_ret, RetK_block, RetK_block_ret, RetK_block_exit, RetK_block_exit_ne, op_mv, op_un, op_bin, op_load, loadV_ptr, op_faddr, faddrV_ptr, op_pick, pickV_true, pickV_false, pickV_bool, pickV_same, op_box, boxV_agg, op_call, op_build, op_ext, op_alloc, op_store, storeV_ptr, List.all_cons, List.all_nil, AV.one, AV.cells, Bool.and_self, Bool.and_true, Bool.true_and, put, CA.ev, List.set_cons_zero, List.set_cons_succ, List.getD_cons_zero, List.getD_cons_succ, abin, aint, aun, isShift, Option.map_some, Option.bind_some, List.map_cons, List.map_nil, Hp.n_withLow, Hp.n_push, Hp.n_set, Hp.low_withLow, Hp.low_push, Hp.low_set, Hp.get_push, Hp.get_set, Hp.get_withLow, readVar, readCell, readCells, writeCells, cut, fillA, Bool.false_eq_true, if_false, if_true, reduceIte, List.getElem?_cons_zero, List.getElem?_cons_succ, Nat.zero_add, Nat.add_zero, Nat.reduceAdd, Nat.reduceSub, Nat.reduceLT, Nat.reduceLeDiff, Nat.reduceEqDiff, List.length_cons, List.length_nil, List.take_succ_cons, List.take_zero, List.drop_zero, List.drop_succ_cons, List.cons_append, List.nil_append, List.append_nil, DoneK, resAll, resOne, AV.under, AV.unders, and_true, true_and, and_self, or_true, true_or, cond_true, cond_false, Nat.le_refl, Nat.add_eq_left, Nat.left_eq_add, Nat.add_right_cancel_iff, Nat.add_left_cancel_iff, el, e0, e1, e2, e9, e36, e37, e38, Option.some.injEq, tmset_self, tmset_ne, List.length_set, Nat.reduceBEq, Nat.reduceLT, *]) | (refine GuardK_split (fun hb => ?_) (fun hb => ?_)) | (refine CondK_split (fun hb => ?_) (fun hb => ?_)) | (refine CodeK_regionD _ ?_) | (refine DGuardK_split (fun hb => ?_) (fun hb => ?_))
      refine ⟨_, rfl, ?_⟩
      rw [settle_new (by simp [AV.under, AV.unders])]
      have hhn := hext.1
      refine ⟨v2, h.n, fun b => if b < h'.n then own b else H + 1, vs, rfl, he'.trans (Ext.low _ _), Nat.le_refl _, ?_, by show (if h.n < h'.n then own h.n else H + 1) = H; rw [if_pos hbn]; exact hob, ?_, hvl, fun j hj => ?_, ?_⟩
      · have := he.1
        simp only [Hp.n_withLow]; omega
      · simp only [Hp.get_withLow]; rw [he.2 _ hbn, hg0]
      · obtain ⟨vj, k1, k2⟩ := hrow j hj
        exact ⟨vj, k1, k2.mono (by simpa using he.1) (fun b q1 hh => by show (if b < h'.n then own b else H + 1) = _; rw [if_pos q1]; exact hh) fun b hb _ => by simp only [Hp.get_withLow]; exact he.2 b hb⟩
      · rcases hf with ⟨q1, q2⟩ | ⟨q1, b, q2, q3, q4, q5⟩
        · exact .inl ⟨q1, q2⟩
        · exact .inr ⟨q1, b, by omega, by simpa using q3, by show (if b < h'.n then own b else H + 1) = _; rw [if_neg (by omega)], q4, by simpa using q5⟩
    case pos =>
      have m1 : decide ((i : Int) < (N : Int)) = true := by simp; omega
      have hx := List.getElem?_eq_getElem (l := xs) (i := i) (by omega)
      have hgd : xs.getD i 0 = xs[i]'(by omega) := by simp [List.getD_eq_getElem?_getD, hx]
      generalize xs[i]'(by omega) = x at hx hgd
      have hx' : (xs.take N)[i]? = some x := by rw [List.getElem?_take_of_lt hlt, hx]
      obtain ⟨b, o, cells, ro, ha, g1, g2, g3⟩ := (hr36.ext hext).at hx'
      have hj := Nat.mod_lt i hH
      have hm : ((i : Int)).tmod (H : Int) = ((i % H : Nat) : Int) := by rw [Int.tmod_eq_emod_of_nonneg (by omega)]; rfl
      obtain ⟨vj, k1, k2⟩ := hrow (i % H) hj
      have ia : ∀ hy : AH, iaddrV 1 (.slice (some (h.n, 0)) H (.exact H)) (.int .i64 ((i % H : Nat) : Int)) hy = some (.ptr (some (h.n, i % H)), hy) := fun hy => by rw [iaddrV_nat hj, Nat.mul_one, Nat.zero_add]
      have w3 : IntKind.wrap .i64 ((i : Int) + 1) = ((i + 1 : Nat) : Int) := by rw [wrap_i64 (by omega) (by omega)]; omega
      have hdl2 := dealt_length H xs i (i % H)
      have o3 : ∀ a y : AV, Fs.over [a] 0 [y] = [y] := fun _ _ => rfl
      have r1 : ∀ a : AV, Fs.reps [a] 1 = [a] := fun _ => rfl
      have nb : ¬ h.n = h'.n := by omega
      repeat' first | (simp only [op_lenS, lenSV_str, op_lenV, lenV_slice, op_toInt, toIntV_int, op_iaddrS, RetK_inv, RetK_inv_exit, RetK_inv_ret, Nat.add_assoc, Nat.reduceEqDiff, Nat.reduceBEq, Nat.reduceBNe, Nat.le_min, Nat.le_add_right, Nat.min_self, Int.reduceBEq, Int.reduceBNe, Int.reduceLT, Int.reduceLE, Int.reduceEq, beq_self_eq_true, bne_self_eq_false, Bool.not_true, Bool.not_false, decide_true, decide_false, decide_eq_true_eq, Bool.and_eq_true, List.mapM_cons, List.mapM_nil, Option.bind_eq_bind, Option.pure_def, aeqK_agg, aeqK_scal, leavesK_nil, leavesK_cons, leafK_i, leafK_b, leafK_s, DrawK_nil, DrawK_cons, DrawK_guard, DResK_some, DGuardK_tt, DGuardK_ff, DGuardK_tf, DGuardK_ft, DGuardK_u, kept_load, Kept, KeptOne, closeOp, CO.quiet, CO.reads, CodeK_seq, CodeK_region, CodeK_skip, CodeK_ret, CodeK_exit, CodeK_cond, CodeK_block, CondK_true, CondK_false, RunK_cons, RunK_nil, RunK_guard, GuardK_tt, GuardK_ff, GuardK_tf, GuardK_ft, GuardK_u, ResK_some, RetK_nil, RetK_seq, RetK_seq_exit, RetK_seq_ret, RetK_block, RetK_block_ret, RetK_block_exit, RetK_block_exit_ne, op_mv, op_un, op_bin, op_load, loadV_ptr, op_faddr, faddrV_ptr, op_pick, pickV_true, pickV_false, pickV_bool, pickV_same, op_box, boxV_agg, op_call, op_build, op_ext, op_alloc, op_store, storeV_ptr, List.all_cons, List.all_nil, AV.one, AV.cells, Bool.and_self, Bool.and_true, Bool.true_and, put, CA.ev, List.set_cons_zero, List.set_cons_succ, List.getD_cons_zero, List.getD_cons_succ, abin, aint, aun, isShift, Option.map_some, Option.bind_some, List.map_cons, List.map_nil, Hp.n_withLow, Hp.n_push, Hp.n_set, Hp.low_withLow, Hp.low_push, Hp.low_set, Hp.get_push, Hp.get_set, Hp.get_withLow, readVar, readCell, readCells, writeCells, cut, fillA, Bool.false_eq_true, if_false, if_true, reduceIte, List.getElem?_cons_zero, List.getElem?_cons_succ, Nat.zero_add, Nat.add_zero, Nat.reduceAdd, Nat.reduceSub, Nat.reduceLT, Nat.reduceLeDiff, Nat.reduceEqDiff, List.length_cons, List.length_nil, List.take_succ_cons, List.take_zero, List.drop_zero, List.drop_succ_cons, List.cons_append, List.nil_append, List.append_nil, DoneK, resAll, resOne, AV.under, AV.unders, and_true, true_and, and_self, or_true, true_or, cond_true, cond_false, Nat.le_refl, Nat.add_eq_left, Nat.left_eq_add, Nat.add_right_cancel_iff, Nat.add_left_cancel_iff, el, e0, e1, e2, e9, e36, e37, e38, m1, hm, n0, ha, ia, g1, g2, hg0, k1, nb, op_litS, fillA, o3, r1, op_append, tmset_self, tmset_ne, List.length_set, Nat.reduceBEq, Nat.reduceLT, *]) | (refine GuardK_split (fun hb => ?_) (fun hb => ?_)) | (refine CondK_split (fun hb => ?_) (fun hb => ?_)) | (refine CodeK_regionD _ ?_) | (refine DGuardK_split (fun hb => ?_) (fun hb => ?_))
      refine DResK_ex (app_fr (N := h.n) (own := fun b => if b = h'.n then H else own b) (c := i % H) (xs := dealt H xs i (i % H)) (ys := [x]) (k2.mono (by simp) (fun b hb hc => ?_) fun b hb _ => ?_) ⟨_, _, rfl, .inl ⟨1, rfl, by simp⟩, .inr ⟨h'.n, 0, [.int .i64 x], false, rfl, by simp, by simp, rfl⟩⟩ (by simp) (by simp; omega)) fun v2 h2 hL => ?_
      · have n1 : ¬ b = h'.n := by omega
        simp only [n1, if_false]; exact hc
      · exact Hp.get_push_ne _ _ _ (by omega)
      obtain ⟨rfl, r2, r3, r4⟩ := hL
      simp only [Hp.n_push] at r2 r3 r4
      have old2 : ∀ b, b < h'.n → own b ≠ i % H → h2.get b = h'.get b := fun b hb hc => by
        have n1 : ¬ b = h'.n := by omega
        rw [r4 b (by omega) (by simp only [n1, if_false]; exact hc), Hp.get_push_ne _ _ _ n1]
      have hg0' : h2.get h.n = some (.cells vs false) := by rw [old2 h.n hbn (by omega), hg0]
      have ov : ∀ y : AV, Fs.over vs (i % H) [y] = vs.set (i % H) y := fun y => over_set (by omega) y
      have k3 : i % H + 1 ≤ H := by omega
      simp only [Hp.n_push]
      repeat' first | (simp only [op_lenS, lenSV_str, op_lenV, lenV_slice, op_toInt, toIntV_int, op_iaddrS, RetK_inv, RetK_inv_exit, RetK_inv_ret, Nat.add_assoc, Nat.reduceEqDiff, Nat.reduceBEq, Nat.reduceBNe, Nat.le_min, Nat.le_add_right, Nat.min_self, Int.reduceBEq, Int.reduceBNe, Int.reduceLT, Int.reduceLE, Int.reduceEq, beq_self_eq_true, bne_self_eq_false, Bool.not_true, Bool.not_false, decide_true, decide_false, decide_eq_true_eq, Bool.and_eq_true, List.mapM_cons, List.mapM_nil, Option.bind_eq_bind, Option.pure_def, aeqK_agg, aeqK_scal, leavesK_nil, leavesK_cons, leafK_i, leafK_b, leafK_s, DrawK_nil, DrawK_cons, DrawK_guard, DResK_some, DGuardK_tt, DGuardK_ff, DGuardK_tf, DGuardK_ft, DGuardK_u, kept_load, Kept, KeptOne, closeOp, CO.quiet, CO.reads, CodeK_seq, CodeK_region, CodeK_skip, CodeK_ret, CodeK_exit, CodeK_cond, CodeK_block, CondK_true, CondK_false, RunK_cons, RunK_nil, RunK_guard, GuardK_tt, GuardK_ff, GuardK_tf, GuardK_ft, GuardK_u, ResK_some, RetK_nil, RetK_seq, RetK_seq_exit, RetK_seq_ret, RetK_block, RetK_block_ret, RetK_block_exit, RetK_block_exit_ne, op_mv, op_un, op_bin, op_load, loadV_ptr, op_faddr, faddrV_ptr, op_pick, pickV_true, pickV_false, pickV_bool, pickV_same, op_box, boxV_agg, op_call, op_build, op_ext, op_alloc, op_store, storeV_ptr, List.all_cons, List.all_nil, AV.one, AV.cells, Bool.and_self, Bool.and_true, Bool.true_and, put, CA.ev, List.set_cons_zero, List.set_cons_succ, List.getD_cons_zero, List.getD_cons_succ, abin, aint, aun, isShift, Option.map_some, Option.bind_some, List.map_cons, List.map_nil, Hp.n_withLow, Hp.n_push, Hp.n_set, Hp.low_withLow, Hp.low_push, Hp.low_set, Hp.get_push, Hp.get_set, Hp.get_withLow, readVar, readCell, readCells, writeCells, cut, fillA, Bool.false_eq_true, if_false, if_true, reduceIte, List.getElem?_cons_zero, List.getElem?_cons_succ, Nat.zero_add, Nat.add_zero, Nat.reduceAdd, Nat.reduceSub, Nat.reduceLT, Nat.reduceLeDiff, Nat.reduceEqDiff, List.length_cons, List.length_nil, List.take_succ_cons, List.take_zero, List.drop_zero, List.drop_succ_cons, List.cons_append, List.nil_append, List.append_nil, DoneK, resAll, resOne, AV.under, AV.unders, and_true, true_and, and_self, or_true, true_or, cond_true, cond_false, Nat.le_refl, Nat.add_eq_left, Nat.left_eq_add, Nat.add_right_cancel_iff, Nat.add_left_cancel_iff, el, e0, e1, e2, e9, e36, e37, e38, hm, n0, ia, hg0, hg0', k1, nb, w3, hvl, ov, k3, tmset_self, tmset_ne, List.length_set, Nat.reduceBEq, Nat.reduceLT, *]) | (refine GuardK_split (fun hb => ?_) (fun hb => ?_)) | (refine CondK_split (fun hb => ?_) (fun hb => ?_)) | (refine CodeK_regionD _ ?_) | (refine DGuardK_split (fun hb => ?_) (fun hb => ?_))
      refine ⟨N - (i + 1), by omega, ⟨by simp only [List.length_set, el], by simp only [tmset_self, tmset_ne, List.length_set, Nat.reduceBEq, Nat.reduceLT, el, e0], by simp only [tmset_self, tmset_ne, List.length_set, Nat.reduceBEq, Nat.reduceLT, el, e1], by simp only [tmset_self, tmset_ne, List.length_set, Nat.reduceBEq, Nat.reduceLT, el, e2], by simp only [tmset_self, tmset_ne, List.length_set, Nat.reduceBEq, Nat.reduceLT, el, e9], by simp only [tmset_self, tmset_ne, List.length_set, Nat.reduceBEq, Nat.reduceLT, el, e36], by simp only [tmset_self, tmset_ne, List.length_set, Nat.reduceBEq, Nat.reduceLT, el, e37], ?_, ?_, i + 1, fun b => if b = h'.n then H else if b = h'.n + 1 then i % H else own b, vs.set (i % H) (.slice (some (h'.n + 1, 0)) (dealt H xs i (i % H) ++ [x]).length (.opn 1)), rfl, by omega, by simp only [tmset_self, tmset_ne, List.length_set, Nat.reduceBEq, Nat.reduceLT, el], ?_, fun b hb => ?_, ?_, by rw [List.length_set, hvl], fun j hj2 => ?_⟩⟩
      · have := hext.1
        refine ⟨by simp only [Hp.n_set]; omega, fun b hb => ?_⟩
        have := hoN b hb
        have n1 : ¬ b = h.n := by omega
        simp only [Hp.get_set, n1, if_false]
        rw [old2 b (by omega) (by omega), hext.2 b hb]
      · simp only [Hp.n_set]; omega
      · have n2 : ¬ h.n = h'.n + 1 := by omega
        simp only [nb, n2, if_false]; exact hob
      · have := hext.1
        have n1 : ¬ b = h'.n := by omega
        have n2 : ¬ b = h'.n + 1 := by omega
        simp only [n1, n2, if_false]; exact hoN b hb
      · simp only [Hp.get_set, if_true]
      · by_cases hjj : j = i % H
        · subst hjj
          refine ⟨_, by rw [List.getElem?_set_self (by omega)], ?_⟩
          have hd : dealt H xs (i + 1) (i % H) = dealt H xs i (i % H) ++ [x] := by simp only [dealt, if_true, hgd]
          rw [hd]
          have n1 : ¬ h'.n + 1 = h'.n := by omega
          have n2 : ¬ h'.n + 1 = h.n := by omega
          refine .inr ⟨by simp, h'.n + 1, by omega, by simp only [Hp.n_set]; omega, by simp only [n1, if_false, if_true], rfl, ?_⟩
          simp only [Hp.get_set, n2, if_false]; exact r3
        · obtain ⟨vk, q1, q2⟩ := hrow j hj2
          refine ⟨vk, by rw [List.getElem?_set_ne (by omega)]; exact q1, ?_⟩
          have hd : dealt H xs (i + 1) j = dealt H xs i j := by simp only [dealt, if_neg hjj]
          rw [hd]
          refine q2.mono (by simp only [Hp.n_set]; omega) (fun b hb hc => ?_) fun b hb hc => ?_
          · have n1 : ¬ b = h'.n := by omega
            have n2 : ¬ b = h'.n + 1 := by omega
            simp only [n1, n2, if_false]; exact hc
          · have n1 : ¬ b = h.n := fun e => by rw [e, hob] at hc; omega
            simp only [Hp.get_set, n1, if_false]
            exact old2 b hb (by omega)

/-- Hand j, as the reference tells it: so many numbers. -/
def rowR (H : Nat) (xs : List Int) (j : Nat) : Nat → List Int
  | 0 => []
  | k + 1 => rowR H xs j k ++ [xs.getD (j + k * H) 0]
theorem rowR_length (H : Nat) (xs : List Int) (j : Nat) : ∀ k, (rowR H xs j k).length = k
  | 0 => rfl
  | k + 1 => by simp [rowR, rowR_length H xs j k]
theorem dealt_part {H : Nat} (xs : List Int) {j : Nat} (hj : j < H) (e : Nat) (ih : dealt H xs (H * e) j = rowR H xs j e) : ∀ r, r ≤ H → dealt H xs (H * e + r) j = if j < r then rowR H xs j (e + 1) else rowR H xs j e
  | 0, _ => by simpa using ih
  | r + 1, hr => by
    have ih2 := dealt_part xs hj e ih r (by omega)
    have hm : (H * e + r) % H = r := by rw [Nat.mul_add_mod, Nat.mod_eq_of_lt (by omega)]
    rw [show H * e + (r + 1) = (H * e + r) + 1 by omega]
    simp only [dealt, hm]
    by_cases hjr : j = r
    · subst hjr
      rw [if_pos rfl, ih2, if_neg (by omega), if_pos (by omega)]
      simp only [rowR]
      rw [Nat.mul_comm H e, Nat.add_comm]
    · rw [if_neg hjr, ih2]
      by_cases hlt : j < r
      · rw [if_pos hlt, if_pos (by omega)]
      · rw [if_neg hlt, if_neg (by omega)]
theorem dealt_row {H : Nat} (xs : List Int) {j : Nat} (hj : j < H) : ∀ e, dealt H xs (H * e) j = rowR H xs j e
  | 0 => rfl
  | e + 1 => by
    have := dealt_part xs hj e (dealt_row xs hj e) H (Nat.le_refl _)
    rw [if_pos hj] at this
    rw [Nat.mul_succ]
    exact this
end Go.Proofs.Po
