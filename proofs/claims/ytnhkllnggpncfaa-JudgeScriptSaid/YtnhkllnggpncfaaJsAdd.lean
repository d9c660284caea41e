/- The reference's memory: a form is added. -/
import Derived.Test.YtnhkllnggpncfaaJsRef
namespace Go.Proofs.Js
open Go Go.Fs
set_option linter.unusedSimpArgs false
set_option linter.unusedVariables false
variable {orc : Orc}

theorem over_set {l : List AV} {i : Nat} (h : i < l.length) (x : AV) : Fs.over l i [x] = l.set i x := by
  simp [Fs.over, List.set_eq_take_append_cons_drop, h]
theorem over1 (a b : AV) : Fs.over [a] 0 [b] = [b] := rfl
theorem over31 (a b c x : AV) : Fs.over [a, b, c] 1 [x] = [a, x, c] := rfl
theorem over32 (a b c x : AV) : Fs.over [a, b, c] 2 [x] = [a, b, x] := rfl
theorem reps1 (a : AV) : Fs.reps [a] 1 = [a] := rfl

theorem Row.own {h : AH} {own own' : Nat → Nat} {c : Nat} {v : AV} {cs : List AV} (hr : Row h own c v cs) (ho : ∀ b, b < h.n → own' b = own b) : Row h own' c v cs := by
  rcases hr with h1 | ⟨h1, b, h2, h3, h4, h5⟩
  · exact .inl h1
  · exact .inr ⟨h1, b, h2, h3, by rw [ho b h3, h4], h5⟩
theorem Row.mono {h h' : AH} {own : Nat → Nat} {c : Nat} {v : AV} {cs : List AV} (hr : Row h own c v cs) (hn : h.n ≤ h'.n) (ho : ∀ b, b < h.n → own b = c → h'.get b = h.get b) : Row h' own c v cs := by
  rcases hr with h1 | ⟨h1, b, h2, h3, h4, h5⟩
  · exact .inl h1
  · exact .inr ⟨h1, b, h2, by omega, h4, by rw [ho b h3 h4, h5]⟩
theorem append_grow {bytes L c : Nat} {h : AH} {own : Nat → Nat} {v : AV} {cs : List AV} {x : AV} (hb : bytes ≤ 64) (hL : h.get L = some (.cells [x] false)) (h1 : AV.one x = true) (hr : Row h own c v cs) (h2 : cs.length ≤ 4096) :
    ∃ v' h', appendRun 1 bytes v (.slice (some (L, 0)) 1 (.exact 1)) h = some (v', h') ∧ (v' = .slice (some (h.n, 0)) (cs.length + 1) (.opn 1) ∧ h'.n = h.n + 1 ∧ h'.get h.n = some (.cells (cs ++ [x]) false) ∧ ∀ b, b < h.n → own b ≠ c → h'.get b = h.get b) := by
  rcases hr with ⟨rfl, rfl⟩ | ⟨hne, b, rfl, hbn, hbo, hg⟩
  · refine ⟨_, _, append_nil hb hL, rfl, by simp, by simp, fun b hb _ => ?_⟩
    exact Hp.get_push_ne _ _ _ (by omega)
  · have hlen : 0 < cs.length := List.length_pos_iff.2 hne
    refine ⟨_, _, append_row hb hL h1 hg rfl hlen h2, rfl, by simp, ?_, fun b' hb' hc => ?_⟩
    · simp only [Hp.get_push, Hp.n_set, if_true]
    · have n1 : ¬ b' = h.n := by omega
      have n2 : ¬ b' = b := fun e => hc (by rw [e, hbo])
      simp only [Hp.get_push, Hp.n_set, n1, if_false, Hp.get_set, n2]

def AddR (h : AH) (own : Nat → Nat) (c s : Nat) (E : Ent) (f : List UInt8) (v : AV) (h1 : AH) : Prop :=
  v = addA f E ∧ h.n ≤ h1.n ∧ ∃ own' vF' vO', (∀ b, b < h.n → own' b = own b) ∧ RefM h1 own' c s vF' vO' (addE f E) ∧ ∀ b, b < h.n → own b ≠ c → own b ≠ c + 1 → own b ≠ c + 2 → h1.get b = h.get b

set_option maxRecDepth 100000 in
set_option maxHeartbeats 8000000 in
theorem refadd_spec (ho : orc 25 = none) (ho2 : orc 66 = none) {h : AH} {own : Nat → Nat} {c s : Nat} {vF vO : AV} {E : Ent} (hm : RefM h own c s vF vO E) (hE : E.length ≤ 400) (hb : ∀ e ∈ E, e.2 ≤ 400) (f : List UInt8) :
    ∃ v h1, acall orc T 25 [.ptr (some (s, 0)), .str f] h = some (v, h1) ∧ AddR h own c s E f v h1 := by
  refine acall_facts (R := AddR h own c s E f) ho tbl25 ?_
  have g1 := hm.box
  have hsn := hm.sn
  have hso := hm.so
  have hm' : RefM (h.withLow h.n) own c s vF vO E := ⟨by simpa using hm.box, hm.sn, hm.so, hm.forms, hm.often⟩
  have c1 := at_spec ho2 hm' hE f
  have hfl := forms_length E
  have hol := often_length E
  have hlenv : ∀ hx : AH, lenV vF hx = some (.int .i64 (E.length : Int), hx) := fun hx => by
    rcases hm.forms with ⟨h1, rfl⟩ | ⟨h1, b, rfl, _⟩
    · have : E.length = 0 := by rw [← forms_length, h1]; rfl
      rw [this]; rfl
    · rw [forms_length]; rfl
  have l2 : decide ((4096 : Int) ≤ (E.length : Int)) = false := by simp; omega
  unfold AddR addA addE
  by_cases hl : 65536 < f.length
  · have l1 := len_gt hl
    rw [if_pos hl, if_pos hl]
    generalize idxV (idxE f E) = iv at c1
    dsimp only [List.length, List.replicate, List.append, List.cons_append, List.nil_append, Nat.reduceAdd, Nat.reduceSub]
    repeat' first | (simp only [op_lenS, lenSV_str, op_lenV, lenV_slice, op_toInt, toIntV_int, op_iaddrS, RetK_inv, RetK_inv_exit, RetK_inv_ret, Nat.add_assoc, Nat.reduceEqDiff, Nat.reduceBEq, Nat.reduceBNe, Nat.le_min, Nat.le_add_right, Nat.min_self, Int.reduceBEq, Int.reduceBNe, Int.reduceLT, Int.reduceLE, Int.reduceEq, beq_self_eq_true, bne_self_eq_false, Bool.not_true, Bool.not_false, decide_true, decide_false, decide_eq_true_eq, Bool.and_eq_true, List.mapM_cons, List.mapM_nil, Option.bind_eq_bind, Option.pure_def, aeqK_agg, aeqK_scal, leavesK_nil, leavesK_cons, leafK_i, leafK_b, leafK_s, DrawK_nil, DrawK_cons, DrawK_guard, DResK_some, DGuardK_tt, DGuardK_ff, DGuardK_tf, DGuardK_ft, DGuardK_u, kept_load, Kept, KeptOne, closeOp, CO.quiet, CO.reads, CodeK_seq, CodeK_region, CodeK_skip, CodeK_ret, CodeK_exit, CodeK_cond, CodeK_block, CondK_true, CondK_false, RunK_cons, RunK_nil, RunK_guard, GuardK_tt, GuardK_ff, GuardK_tf, GuardK_ft, GuardK_u, ResK_some, RetK_nil, RetK_seq, RetK_seq_exit, RetK_seq_ret, RetK_block, RetK_block_ret, RetK_block_exit, RetK_block_exit_ne, op_mv, op_un, op_bin, op_load, loadV_ptr, op_faddr, faddrV_ptr, op_pick, pickV_true, pickV_false, pickV_bool, pickV_same, op_box, boxV_agg, op_call, op_build, op_ext, op_alloc, op_store, storeV_ptr, List.all_cons, List.all_nil, AV.one, AV.cells, Bool.and_self, Bool.and_true, Bool.true_and, put, CA.ev, List.set_cons_zero, List.set_cons_succ, List.getD_cons_zero, List.getD_cons_succ, abin, aint, aun, isShift, Option.map_some, Option.bind_some, List.map_cons, List.map_nil, Hp.n_withLow, Hp.n_push, Hp.n_set, Hp.low_withLow, Hp.low_push, Hp.low_set, Hp.get_push, Hp.get_set, Hp.get_withLow, readVar, readCell, readCells, writeCells, cut, fillA, Bool.false_eq_true, if_false, if_true, reduceIte, List.getElem?_cons_zero, List.getElem?_cons_succ, Nat.zero_add, Nat.add_zero, Nat.reduceAdd, Nat.reduceSub, Nat.reduceLT, Nat.reduceLeDiff, Nat.reduceEqDiff, List.length_cons, List.length_nil, List.take_succ_cons, List.take_zero, List.drop_zero, List.drop_succ_cons, List.cons_append, List.nil_append, List.append_nil, DoneK, resAll, resOne, AV.under, AV.unders, and_true, true_and, and_self, or_true, true_or, cond_true, cond_false, Nat.le_refl, Nat.add_eq_left, Nat.left_eq_add, Nat.add_right_cancel_iff, Nat.add_left_cancel_iff, c1, g1, l1, aun, aeq, Option.isNone, op_nilchk, nilV_ptr, Option.some.injEq, over1, over31, over32, *]) | (refine GuardK_split (fun hb => ?_) (fun hb => ?_)) | (refine CondK_split (fun hb => ?_) (fun hb => ?_)) | (refine CodeK_regionD _ ?_) | (refine DGuardK_split (fun hb => ?_) (fun hb => ?_))
    refine ⟨_, rfl, ?_⟩
    rw [settle_keep (by simp) (by simp [AV.under, AV.unders])]
    exact ⟨rfl, Nat.le_refl _, own, vF, vO, fun _ _ => rfl, hm, fun _ _ _ _ _ => rfl⟩
  have l1 := len_le hl
  rw [if_neg hl, if_neg hl]
  cases hx : idxE f E with
  | some i =>
    rw [hx] at c1
    obtain ⟨hf, hset⟩ := idx_some hx
    obtain ⟨hsf, hso'⟩ := hset (findE f E + 1)
    have hlt := idx_lt hx
    have hfe := find_le (f := f) hb
    have w1 : IntKind.wrap .i64 ((findE f E : Int) + 1) = ((findE f E + 1 : Nat) : Int) := by rw [wrap_i64 (by omega) (by omega)]; omega
    have l3 : decide ((i : Int) < 0) = false := by simp
    rcases hm.often with ⟨h1, _⟩ | ⟨_, b, rfl, hbn, hbo, hg⟩
    · rw [h1] at hol; simp at hol; omega
    rw [hol] at g1
    have hle : i + 1 ≤ E.length := by omega
    have ov := fun x => over_set (l := often E) (i := i) (by omega) x
    have og : ∀ x : AV, ((often E).set i x)[i]? = some x := fun x => by simp [hol, hlt]
    have n1 : ¬ s = b := fun e => by rw [← e, hso] at hbo; omega
    dsimp only [List.length, List.replicate, List.append, List.cons_append, List.nil_append, Nat.reduceAdd, Nat.reduceSub, idxV] at c1 ⊢
    repeat' first | (simp only [op_lenS, lenSV_str, op_lenV, lenV_slice, op_toInt, toIntV_int, op_iaddrS, RetK_inv, RetK_inv_exit, RetK_inv_ret, Nat.add_assoc, Nat.reduceEqDiff, Nat.reduceBEq, Nat.reduceBNe, Nat.le_min, Nat.le_add_right, Nat.min_self, Int.reduceBEq, Int.reduceBNe, Int.reduceLT, Int.reduceLE, Int.reduceEq, beq_self_eq_true, bne_self_eq_false, Bool.not_true, Bool.not_false, decide_true, decide_false, decide_eq_true_eq, Bool.and_eq_true, List.mapM_cons, List.mapM_nil, Option.bind_eq_bind, Option.pure_def, aeqK_agg, aeqK_scal, leavesK_nil, leavesK_cons, leafK_i, leafK_b, leafK_s, DrawK_nil, DrawK_cons, DrawK_guard, DResK_some, DGuardK_tt, DGuardK_ff, DGuardK_tf, DGuardK_ft, DGuardK_u, kept_load, Kept, KeptOne, closeOp, CO.quiet, CO.reads, CodeK_seq, CodeK_region, CodeK_skip, CodeK_ret, CodeK_exit, CodeK_cond, CodeK_block, CondK_true, CondK_false, RunK_cons, RunK_nil, RunK_guard, GuardK_tt, GuardK_ff, GuardK_tf, GuardK_ft, GuardK_u, ResK_some, RetK_nil, RetK_seq, RetK_seq_exit, RetK_seq_ret, RetK_block, RetK_block_ret, RetK_block_exit, RetK_block_exit_ne, op_mv, op_un, op_bin, op_load, loadV_ptr, op_faddr, faddrV_ptr, op_pick, pickV_true, pickV_false, pickV_bool, pickV_same, op_box, boxV_agg, op_call, op_build, op_ext, op_alloc, op_store, storeV_ptr, List.all_cons, List.all_nil, AV.one, AV.cells, Bool.and_self, Bool.and_true, Bool.true_and, put, CA.ev, List.set_cons_zero, List.set_cons_succ, List.getD_cons_zero, List.getD_cons_succ, abin, aint, aun, isShift, Option.map_some, Option.bind_some, List.map_cons, List.map_nil, Hp.n_withLow, Hp.n_push, Hp.n_set, Hp.low_withLow, Hp.low_push, Hp.low_set, Hp.get_push, Hp.get_set, Hp.get_withLow, readVar, readCell, readCells, writeCells, cut, fillA, Bool.false_eq_true, if_false, if_true, reduceIte, List.getElem?_cons_zero, List.getElem?_cons_succ, Nat.zero_add, Nat.add_zero, Nat.reduceAdd, Nat.reduceSub, Nat.reduceLT, Nat.reduceLeDiff, Nat.reduceEqDiff, List.length_cons, List.length_nil, List.take_succ_cons, List.take_zero, List.drop_zero, List.drop_succ_cons, List.cons_append, List.nil_append, List.append_nil, DoneK, resAll, resOne, AV.under, AV.unders, and_true, true_and, and_self, or_true, true_or, cond_true, cond_false, Nat.le_refl, Nat.add_eq_left, Nat.left_eq_add, Nat.add_right_cancel_iff, Nat.add_left_cancel_iff, c1, g1, hg, hf, l1, l2, l3, w1, hol, hle, ov, og, n1, aun, aeq, Option.isNone, op_nilchk, nilV_ptr, iaddrV_nat hlt, Nat.mul_one, hlenv, Option.some.injEq, over1, over31, over32, *]) | (refine GuardK_split (fun hb => ?_) (fun hb => ?_)) | (refine CondK_split (fun hb => ?_) (fun hb => ?_)) | (refine CodeK_regionD _ ?_) | (refine DGuardK_split (fun hb => ?_) (fun hb => ?_))
    refine ⟨_, rfl, ?_⟩
    rw [settle_low (by simp; omega)]
    refine ⟨rfl, by simp, own, vF, .slice (some (b, 0)) E.length (.opn 1), fun _ _ => rfl, ⟨?_, by simpa using hsn, hso, ?_, ?_⟩, fun b' hb' k1 k2 k3 => ?_⟩
    · simp only [Hp.get_withLow, Hp.get_set, n1, if_false]; exact g1
    · rw [hsf]
      rcases hm.forms with h1 | ⟨h1, b2, h2, h3, h4, h5⟩
      · exact .inl h1
      · refine .inr ⟨h1, b2, h2, by simpa using h3, h4, ?_⟩
        have n2 : ¬ b2 = b := fun e => by rw [e, hbo] at h4; omega
        simp only [Hp.get_withLow, Hp.get_set, n2, if_false]; exact h5
    · rw [hso']
      refine .inr ⟨fun e => ?_, b, by rw [List.length_set, hol], by simpa using hbn, hbo, by simp only [Hp.get_withLow, Hp.get_set, if_true]⟩
      have := congrArg List.length e
      rw [List.length_set, hol] at this
      simp only [List.length_nil] at this; omega
    · have n3 : ¬ b' = b := fun e => by rw [e, hbo] at k3; exact k3 rfl
      simp only [Hp.get_withLow, Hp.get_set, n3, if_false]
  | none =>
    rw [hx] at c1
    obtain ⟨hf0, hput⟩ := idx_none hx
    rw [hf0, hput]
    have hform : forms (E ++ [(f, 0 + 1)]) = forms E ++ [.str f] := by simp [forms]
    have hoft : often (E ++ [(f, 0 + 1)]) = often E ++ [.int .i64 1] := by simp [often]
    have w1 : IntKind.wrap .i64 ((0 : Int) + 1) = 1 := by decide
    have a1 : ((0 + 1 : Nat) : Int) = 1 := rfl
    have l3 : decide ((-1 : Int) < 0) = true := rfl
    have hlt : E.length < E.length + 1 := by omega
    have hle : E.length + 1 ≤ (often E ++ [AV.int .i64 0]).length := by simp [hol]
    have ov : ∀ x : AV, Fs.over (often E ++ [AV.int .i64 0]) E.length [x] = often E ++ [x] := fun x => by
      rw [over_set (by simp [hol])]
      rw [← hol, List.set_append_right _ _ (Nat.le_refl _)]
      simp
    have og : ∀ x : AV, (often E ++ [x])[E.length]? = some x := fun x => by rw [← hol]; simp
    rw [a1]
    dsimp only [List.length, List.replicate, List.append, List.cons_append, List.nil_append, Nat.reduceAdd, Nat.reduceSub, idxV] at c1 ⊢
    repeat' first | (simp only [op_lenS, lenSV_str, op_lenV, lenV_slice, op_toInt, toIntV_int, op_iaddrS, RetK_inv, RetK_inv_exit, RetK_inv_ret, Nat.add_assoc, Nat.reduceEqDiff, Nat.reduceBEq, Nat.reduceBNe, Nat.le_min, Nat.le_add_right, Nat.min_self, Int.reduceBEq, Int.reduceBNe, Int.reduceLT, Int.reduceLE, Int.reduceEq, beq_self_eq_true, bne_self_eq_false, Bool.not_true, Bool.not_false, decide_true, decide_false, decide_eq_true_eq, Bool.and_eq_true, List.mapM_cons, List.mapM_nil, Option.bind_eq_bind, Option.pure_def, aeqK_agg, aeqK_scal, leavesK_nil, leavesK_cons, leafK_i, leafK_b, leafK_s, DrawK_nil, DrawK_cons, DrawK_guard, DResK_some, DGuardK_tt, DGuardK_ff, DGuardK_tf, DGuardK_ft, DGuardK_u, kept_load, Kept, KeptOne, closeOp, CO.quiet, CO.reads, CodeK_seq, CodeK_region, CodeK_skip, CodeK_ret, CodeK_exit, CodeK_cond, CodeK_block, CondK_true, CondK_false, RunK_cons, RunK_nil, RunK_guard, GuardK_tt, GuardK_ff, GuardK_tf, GuardK_ft, GuardK_u, ResK_some, RetK_nil, RetK_seq, RetK_seq_exit, RetK_seq_ret, RetK_block, RetK_block_ret, RetK_block_exit, RetK_block_exit_ne, op_mv, op_un, op_bin, op_load, loadV_ptr, op_faddr, faddrV_ptr, op_pick, pickV_true, pickV_false, pickV_bool, pickV_same, op_box, boxV_agg, op_call, op_build, op_ext, op_alloc, op_store, storeV_ptr, List.all_cons, List.all_nil, AV.one, AV.cells, Bool.and_self, Bool.and_true, Bool.true_and, put, CA.ev, List.set_cons_zero, List.set_cons_succ, List.getD_cons_zero, List.getD_cons_succ, abin, aint, aun, isShift, Option.map_some, Option.bind_some, List.map_cons, List.map_nil, Hp.n_withLow, Hp.n_push, Hp.n_set, Hp.low_withLow, Hp.low_push, Hp.low_set, Hp.get_push, Hp.get_set, Hp.get_withLow, readVar, readCell, readCells, writeCells, cut, fillA, Bool.false_eq_true, if_false, if_true, reduceIte, List.getElem?_cons_zero, List.getElem?_cons_succ, Nat.zero_add, Nat.add_zero, Nat.reduceAdd, Nat.reduceSub, Nat.reduceLT, Nat.reduceLeDiff, Nat.reduceEqDiff, List.length_cons, List.length_nil, List.take_succ_cons, List.take_zero, List.drop_zero, List.drop_succ_cons, List.cons_append, List.nil_append, List.append_nil, DoneK, resAll, resOne, AV.under, AV.unders, and_true, true_and, and_self, or_true, true_or, cond_true, cond_false, Nat.le_refl, Nat.add_eq_left, Nat.left_eq_add, Nat.add_right_cancel_iff, Nat.add_left_cancel_iff, c1, g1, l1, l2, l3, w1, aun, aeq, Option.isNone, op_nilchk, nilV_ptr, Nat.mul_one, op_litS, fillA, reps1, hlenv, Option.some.injEq, op_append, over1, over31, over32, *]) | (refine GuardK_split (fun hb => ?_) (fun hb => ?_)) | (refine CondK_split (fun hb => ?_) (fun hb => ?_)) | (refine CodeK_regionD _ ?_) | (refine DGuardK_split (fun hb => ?_) (fun hb => ?_))
    generalize hown : (fun b => if b < h.n then own b else 0) = own1
    have own1a : ∀ b, b < h.n → own1 b = own b := fun b hb => by rw [← hown]; simp [hb]
    have own1b : ∀ b, h.n ≤ b → own1 b = 0 := fun b hb => by
      have : ¬ b < h.n := by omega
      rw [← hown]; simp [this]
    have hF := hm.forms.own own1a
    have hO := hm.often.own own1a
    refine ResK_ex (append_grow (h := (h.withLow h.n).push (.cells [.str f] false)) (own := own1) (c := c + 1) (cs := forms E) (L := h.n) (x := .str f) (by omega) ?_ rfl (hF.mono ?_ fun b hb _ => ?_) (by omega)) fun v2 h2 hL => ?_
    · simp only [Hp.get_push, Hp.n_withLow, if_true]
    · simp only [Hp.n_push, Hp.n_withLow]; omega
    · have n1 : ¬ b = h.n := by omega
      simp only [Hp.get_push, Hp.n_withLow, n1, if_false, Hp.get_withLow]
    obtain ⟨rfl, e1, e2, e3⟩ := hL
    simp only [Hp.n_push, Hp.n_withLow, hfl] at e1 e2 e3
    have old2 : ∀ b, b < h.n → own b ≠ c + 1 → h2.get b = h.get b := fun b hb hc => by
      rw [e3 b (by omega) (by rw [own1a b hb]; exact hc)]
      have n1 : ¬ b = h.n := by omega
      simp only [Hp.get_push, Hp.n_withLow, n1, if_false, Hp.get_withLow]
    have q1 : h2.get s = some (.cells [.bool true, vF, vO] false) := by rw [old2 s hsn (by omega), g1]
    simp only [Hp.n_push, Hp.n_withLow, hfl]
    repeat' first | (simp only [op_lenS, lenSV_str, op_lenV, lenV_slice, op_toInt, toIntV_int, op_iaddrS, RetK_inv, RetK_inv_exit, RetK_inv_ret, Nat.add_assoc, Nat.reduceEqDiff, Nat.reduceBEq, Nat.reduceBNe, Nat.le_min, Nat.le_add_right, Nat.min_self, Int.reduceBEq, Int.reduceBNe, Int.reduceLT, Int.reduceLE, Int.reduceEq, beq_self_eq_true, bne_self_eq_false, Bool.not_true, Bool.not_false, decide_true, decide_false, decide_eq_true_eq, Bool.and_eq_true, List.mapM_cons, List.mapM_nil, Option.bind_eq_bind, Option.pure_def, aeqK_agg, aeqK_scal, leavesK_nil, leavesK_cons, leafK_i, leafK_b, leafK_s, DrawK_nil, DrawK_cons, DrawK_guard, DResK_some, DGuardK_tt, DGuardK_ff, DGuardK_tf, DGuardK_ft, DGuardK_u, kept_load, Kept, KeptOne, closeOp, CO.quiet, CO.reads, CodeK_seq, CodeK_region, CodeK_skip, CodeK_ret, CodeK_exit, CodeK_cond, CodeK_block, CondK_true, CondK_false, RunK_cons, RunK_nil, RunK_guard, GuardK_tt, GuardK_ff, GuardK_tf, GuardK_ft, GuardK_u, ResK_some, RetK_nil, RetK_seq, RetK_seq_exit, RetK_seq_ret, RetK_block, RetK_block_ret, RetK_block_exit, RetK_block_exit_ne, op_mv, op_un, op_bin, op_load, loadV_ptr, op_faddr, faddrV_ptr, op_pick, pickV_true, pickV_false, pickV_bool, pickV_same, op_box, boxV_agg, op_call, op_build, op_ext, op_alloc, op_store, storeV_ptr, List.all_cons, List.all_nil, AV.one, AV.cells, Bool.and_self, Bool.and_true, Bool.true_and, put, CA.ev, List.set_cons_zero, List.set_cons_succ, List.getD_cons_zero, List.getD_cons_succ, abin, aint, aun, isShift, Option.map_some, Option.bind_some, List.map_cons, List.map_nil, Hp.n_withLow, Hp.n_push, Hp.n_set, Hp.low_withLow, Hp.low_push, Hp.low_set, Hp.get_push, Hp.get_set, Hp.get_withLow, readVar, readCell, readCells, writeCells, cut, fillA, Bool.false_eq_true, if_false, if_true, reduceIte, List.getElem?_cons_zero, List.getElem?_cons_succ, Nat.zero_add, Nat.add_zero, Nat.reduceAdd, Nat.reduceSub, Nat.reduceLT, Nat.reduceLeDiff, Nat.reduceEqDiff, List.length_cons, List.length_nil, List.take_succ_cons, List.take_zero, List.drop_zero, List.drop_succ_cons, List.cons_append, List.nil_append, List.append_nil, DoneK, resAll, resOne, AV.under, AV.unders, and_true, true_and, and_self, or_true, true_or, cond_true, cond_false, Nat.le_refl, Nat.add_eq_left, Nat.left_eq_add, Nat.add_right_cancel_iff, Nat.add_left_cancel_iff, q1, l1, l2, l3, w1, aun, aeq, Option.isNone, op_nilchk, nilV_ptr, Nat.mul_one, op_litS, fillA, reps1, hlenv, Option.some.injEq, op_append, over1, over31, over32, *]) | (refine GuardK_split (fun hb => ?_) (fun hb => ?_)) | (refine CondK_split (fun hb => ?_) (fun hb => ?_)) | (refine CodeK_regionD _ ?_) | (refine DGuardK_split (fun hb => ?_) (fun hb => ?_))
    have hvF2 : ∀ b, b < h.n → own b = c + 2 → h2.get b = h.get b := fun b hb hc => old2 b hb (by omega)
    refine ResK_ex (append_grow (h := (h2.set s (.cells [.bool true, .slice (some (h.n + 1, 0)) (E.length + 1) (.opn 1), vO] false)).push (.cells [.int .i64 0] false)) (own := own1) (c := c + 2) (cs := often E) (L := h.n + 2) (x := .int .i64 0) (by omega) ?_ rfl (hO.mono ?_ fun b hb hc => ?_) (by omega)) fun v3 h3 hL => ?_
    · simp only [Hp.get_push, Hp.n_set, e1, if_true]
    · simp only [Hp.n_push, Hp.n_set, e1]; omega
    · have hc' : own b = c + 2 := by rw [← own1a b hb]; exact hc
      have n1 : ¬ b = h.n + 2 := by omega
      have n2 : ¬ b = s := fun e => by rw [e, hso] at hc'; omega
      simp only [Hp.get_push, Hp.n_set, e1, n1, n2, if_false, Hp.get_set, hvF2 b hb hc']
    obtain ⟨rfl, i1, i2, i3⟩ := hL
    simp only [Hp.n_push, Hp.n_set, e1, hol] at i1 i2 i3
    have n0 : ¬ s = h.n + 2 := by omega
    have q2 : h3.get s = some (.cells [.bool true, .slice (some (h.n + 1, 0)) (E.length + 1) (.opn 1), vO] false) := by
      rw [i3 s (by omega) (by rw [own1a s hsn]; omega)]
      simp only [Hp.get_push, Hp.n_set, e1, n0, if_false, Hp.get_set, if_true]
    have n1 : ¬ h.n + 1 = h.n + 2 := by omega
    have n2 : ¬ h.n + 1 = s := by omega
    have n3 : ¬ h.n + 3 = s := by omega
    have n4 : ¬ s = h.n + 3 := by omega
    have n5 : ¬ h.n + 1 = h.n + 3 := by omega
    have q3 : h3.get (h.n + 1) = some (.cells (forms E ++ [.str f]) false) := by
      rw [i3 (h.n + 1) (by omega) (by rw [own1b (h.n + 1) (by omega)]; omega)]
      simp only [Hp.get_push, Hp.n_set, e1, n1, n2, if_false, Hp.get_set, e2]
    simp only [Hp.n_push, Hp.n_set, e1, hol]
    repeat' first | (simp only [op_lenS, lenSV_str, op_lenV, lenV_slice, op_toInt, toIntV_int, op_iaddrS, RetK_inv, RetK_inv_exit, RetK_inv_ret, Nat.add_assoc, Nat.reduceEqDiff, Nat.reduceBEq, Nat.reduceBNe, Nat.le_min, Nat.le_add_right, Nat.min_self, Int.reduceBEq, Int.reduceBNe, Int.reduceLT, Int.reduceLE, Int.reduceEq, beq_self_eq_true, bne_self_eq_false, Bool.not_true, Bool.not_false, decide_true, decide_false, decide_eq_true_eq, Bool.and_eq_true, List.mapM_cons, List.mapM_nil, Option.bind_eq_bind, Option.pure_def, aeqK_agg, aeqK_scal, leavesK_nil, leavesK_cons, leafK_i, leafK_b, leafK_s, DrawK_nil, DrawK_cons, DrawK_guard, DResK_some, DGuardK_tt, DGuardK_ff, DGuardK_tf, DGuardK_ft, DGuardK_u, kept_load, Kept, KeptOne, closeOp, CO.quiet, CO.reads, CodeK_seq, CodeK_region, CodeK_skip, CodeK_ret, CodeK_exit, CodeK_cond, CodeK_block, CondK_true, CondK_false, RunK_cons, RunK_nil, RunK_guard, GuardK_tt, GuardK_ff, GuardK_tf, GuardK_ft, GuardK_u, ResK_some, RetK_nil, RetK_seq, RetK_seq_exit, RetK_seq_ret, RetK_block, RetK_block_ret, RetK_block_exit, RetK_block_exit_ne, op_mv, op_un, op_bin, op_load, loadV_ptr, op_faddr, faddrV_ptr, op_pick, pickV_true, pickV_false, pickV_bool, pickV_same, op_box, boxV_agg, op_call, op_build, op_ext, op_alloc, op_store, storeV_ptr, List.all_cons, List.all_nil, AV.one, AV.cells, Bool.and_self, Bool.and_true, Bool.true_and, put, CA.ev, List.set_cons_zero, List.set_cons_succ, List.getD_cons_zero, List.getD_cons_succ, abin, aint, aun, isShift, Option.map_some, Option.bind_some, List.map_cons, List.map_nil, Hp.n_withLow, Hp.n_push, Hp.n_set, Hp.low_withLow, Hp.low_push, Hp.low_set, Hp.get_push, Hp.get_set, Hp.get_withLow, readVar, readCell, readCells, writeCells, cut, fillA, Bool.false_eq_true, if_false, if_true, reduceIte, List.getElem?_cons_zero, List.getElem?_cons_succ, Nat.zero_add, Nat.add_zero, Nat.reduceAdd, Nat.reduceSub, Nat.reduceLT, Nat.reduceLeDiff, Nat.reduceEqDiff, List.length_cons, List.length_nil, List.take_succ_cons, List.take_zero, List.drop_zero, List.drop_succ_cons, List.cons_append, List.nil_append, List.append_nil, DoneK, resAll, resOne, AV.under, AV.unders, and_true, true_and, and_self, or_true, true_or, cond_true, cond_false, Nat.le_refl, Nat.add_eq_left, Nat.left_eq_add, Nat.add_right_cancel_iff, Nat.add_left_cancel_iff, q2, i2, l1, l2, l3, n3, n4, w1, ov, og, hle, aun, aeq, Option.isNone, op_nilchk, nilV_ptr, iaddrV_nat hlt, Nat.mul_one, hlenv, Option.some.injEq, op_append, over1, over31, over32, *]) | (refine GuardK_split (fun hb => ?_) (fun hb => ?_)) | (refine CondK_split (fun hb => ?_) (fun hb => ?_)) | (refine CodeK_regionD _ ?_) | (refine DGuardK_split (fun hb => ?_) (fun hb => ?_))
    refine ⟨_, rfl, ?_⟩
    rw [settle_low (by simp; omega)]
    refine ⟨rfl, by simp; omega, fun b => if b = h.n + 1 then c + 1 else if b = h.n + 3 then c + 2 else own b, .slice (some (h.n + 1, 0)) (E.length + 1) (.opn 1), .slice (some (h.n + 3, 0)) (E.length + 1) (.opn 1), fun b hb => ?_, ⟨?_, by simp; omega, ?_, ?_, ?_⟩, fun b' hb' k1 k2 k3 => ?_⟩
    · have m1 : ¬ b = h.n + 1 := by omega
      have m2 : ¬ b = h.n + 3 := by omega
      simp only [m1, m2, if_false]
    · simp only [Hp.get_withLow, Hp.get_set, n3, n4, if_false, if_true]
    · have m1 : ¬ s = h.n + 1 := by omega
      simp only [m1, n4, if_false]; exact hso
    · rw [hform]
      refine .inr ⟨by simp, h.n + 1, by simp [hfl], by simp; omega, by simp only [if_true], ?_⟩
      simp only [Hp.get_withLow, Hp.get_set, n2, n5, if_false, q3]
    · rw [hoft]
      have m3 : ¬ h.n + 3 = h.n + 1 := by omega
      refine .inr ⟨by simp, h.n + 3, by simp [hol], by simp; omega, by simp only [m3, if_true, if_false], ?_⟩
      simp only [Hp.get_withLow, Hp.get_set, if_true]
    · have m1 : ¬ b' = h.n + 3 := by omega
      have m2 : ¬ b' = s := fun e => by rw [e, hso] at k1; exact k1 rfl
      have m3 : ¬ b' = h.n + 2 := by omega
      simp only [Hp.get_withLow, Hp.get_set, m1, m2, if_false]
      rw [i3 b' (by omega) (by rw [own1a b' hb']; exact k3)]
      simp only [Hp.get_push, Hp.n_set, e1, m3, m2, if_false, Hp.get_set]
      exact old2 b' hb' k2
end Go.Proofs.Js
