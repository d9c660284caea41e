/- Lists of parts in memory: copied, lent. -/
import Derived.Test.YtnhkllnggpncfaaCardParts
import Derived.Test.YtnhkllnggpncfaaFsInts
namespace Go.Proofs.Cards
open Go Go.Fs
set_option linter.unusedSimpArgs false
variable {orc : Orc}

def pcells (ps : List Prt) : List AV := ps.flatMap Prt.cells

theorem length_cells (p : Prt) : p.cells.length = 8 := rfl
theorem length_pcells : ∀ ps : List Prt, (pcells ps).length = 8 * ps.length
  | [] => rfl
  | p :: ps => by
    have := length_pcells ps
    simp only [pcells, List.flatMap_cons, List.length_append, length_cells, List.length_cons] at this ⊢
    omega
theorem pcells_append (a b : List Prt) : pcells (a ++ b) = pcells a ++ pcells b := by simp [pcells]
theorem one_cells (p : Prt) : p.cells.all AV.one = true := rfl
theorem one_pcells : ∀ ps : List Prt, (pcells ps).all AV.one = true
  | [] => rfl
  | p :: ps => by
    have := one_pcells ps
    simp only [pcells, List.flatMap_cons, List.all_append, one_cells, Bool.true_and] at this ⊢
    exact this

theorem cut_of {cells : List AV} {o n : Nat} {xs : List AV} (h1 : o + n ≤ cells.length) (h2 : (cells.drop o).take n = xs) : cut cells o n = some xs := by
  unfold cut; rw [if_pos h1, h2]

/-- Each part, read one by one: all of them. -/
theorem cut_all {cells : List AV} : ∀ (ps : List Prt) (o : Nat), ps ≠ [] → (∀ (i : Nat) (p : Prt), ps[i]? = some p → cut cells (o + i * 8) 8 = some p.cells) → cut cells o (ps.length * 8) = some (pcells ps)
  | [], _, h, _ => absurd rfl h
  | p :: ps, o, _, hc => by
    obtain ⟨h1, h2⟩ := cut_parts (hc 0 p rfl)
    rw [Nat.zero_mul, Nat.add_zero] at h1 h2
    by_cases hne : ps = []
    · subst hne
      exact cut_of (by simpa using h1) (by simpa [pcells] using h2)
    · have ih := cut_all ps (o + 8) hne fun i q hq => by
        have := hc (i + 1) q (by simpa using hq)
        rw [show o + (i + 1) * 8 = o + 8 + i * 8 by omega] at this
        exact this
      obtain ⟨h3, h4⟩ := cut_parts ih
      refine cut_of (by simp only [List.length_cons]; omega) ?_
      simp only [List.length_cons]
      rw [show (ps.length + 1) * 8 = 8 + ps.length * 8 by omega, List.take_add, h2, List.drop_drop, h4]
      simp [pcells]

theorem cut_at {ps : List Prt} {pre post : List AV} {i : Nat} {p : Prt} (hp : ps[i]? = some p) : cut (pre ++ pcells ps ++ post) (pre.length + i * 8) 8 = some p.cells := by
  have hlt : i < ps.length := (List.getElem?_eq_some_iff.1 hp).1
  have e : ps = ps.take i ++ p :: ps.drop (i + 1) := by
    have hg : ps[i] = p := by
      have := List.getElem?_eq_getElem hlt
      rw [this] at hp
      exact Option.some.inj hp
    rw [← hg, List.getElem_cons_drop, List.take_append_drop]
  refine cut_of ?_ ?_
  · simp only [List.length_append, length_pcells]; omega
  · have e2 : pre ++ pcells ps ++ post = (pre ++ pcells (ps.take i)) ++ (p.cells ++ (pcells (ps.drop (i + 1)) ++ post)) := by
      conv => lhs; rw [e]
      simp [pcells]
    have hl : (pre ++ pcells (ps.take i)).length = pre.length + i * 8 := by
      simp only [List.length_append, length_pcells, List.length_take]; omega
    rw [e2, ← hl, List.drop_left, ← length_cells p, List.take_left]

theorem elems_parts {h : AH} {v : AV} {ps : List Prt} (hp : Parts h v ps) : elemsOf 8 h v = some (pcells ps) ∧ lenOf v = some ps.length := by
  obtain ⟨a, c, rfl, _, h3⟩ := hp
  refine ⟨?_, rfl⟩
  by_cases hne : ps = []
  · subst hne; rfl
  · rcases h3 with h3 | ⟨b, o, cells, ro, rfl, hb, hg, hc⟩
    · exact absurd h3 hne
    · have hz : ¬ ps.length = 0 := by simpa using hne
      simp only [elemsOf, if_neg hz, readCells, hg]
      exact cut_all ps o hne hc

/-- A block that holds just these parts, and more behind. -/
theorem parts_block {h : AH} {b n : Nat} {c : Cap} {ps qs : List Prt} {ro : Bool} (hg : h.get b = some (.cells (pcells (ps ++ qs)) ro)) (hb : b < h.n) (hn : n = ps.length) (hl : ps.length ≤ 1152921504606846976) : Parts h (.slice (some (b, 0)) n c) ps := by
  subst hn
  refine ⟨_, c, rfl, hl, .inr ⟨b, 0, _, ro, rfl, hb, hg, fun i p hp => ?_⟩⟩
  have := cut_at (pre := []) (post := pcells qs) hp
  rw [pcells_append]
  simpa using this

def mark : Prt := ⟨0, 0, 0, 0, 0, 0, 0, [109, 97, 114, 107]⟩

/-- A copy: nil, or a row of its own whose end is open. -/
def Copied (h : AH) (ps : List Prt) (v : AV) (h' : AH) : Prop :=
  (ps = [] ∧ v = .slice none 0 (.exact 0) ∧ h' = h) ∨
  (ps ≠ [] ∧ v = .slice (some (h.n, 0)) ps.length (.opn 8) ∧ h'.n = h.n + 1 ∧ h'.get h.n = some (.cells (pcells ps) false) ∧ (∀ b, b < h.n → h'.get b = h.get b) ∧ min h.low h.n ≤ h'.low)

theorem append_nil {h : AH} {x : AV} {ps : List Prt} (hp : Parts h x ps) (hl : ps.length * 40 ≤ 140737488355328) :
    appendRun 8 40 (.slice none 0 (.exact 0)) x h = if ps.length = 0 then some (.slice none 0 (.exact 0), h) else some (.slice (some (h.n, 0)) ps.length (.opn 8), h.push (.cells (pcells ps) false)) := by
  obtain ⟨h1, h2⟩ := elems_parts hp
  unfold appendRun
  rw [h2, Option.bind_some, h1, Option.bind_some]
  unfold appendCore
  simp only [elemsOf, if_true, Option.bind_some, Nat.zero_add, List.nil_append]
  by_cases hz : ps.length = 0
  · rw [if_pos (by omega), if_pos hz]
  · rw [if_neg (by omega), if_neg hz, if_pos ⟨by omega, by omega⟩]

theorem copy_spec (ho : orc 71 = none) {v : AV} {ps : List Prt} {h : AH} (hp : Parts h v ps) (hl : ps.length * 40 ≤ 140737488355328) :
    ∃ v' h', acall orc T 71 [v] h = some (v', h') ∧ Copied h ps v' h' := by
  refine acall_facts ho tbl71 ?_
  have hp' : Parts (h.withLow h.n) v ps := hp.mono (Nat.le_refl _) fun _ _ => rfl
  have ha := append_nil hp' hl
  dsimp only [List.length, List.replicate, List.append, List.cons_append, List.nil_append, Nat.reduceAdd, Nat.reduceSub]
  by_cases hz : ps.length = 0
  · rw [if_pos hz] at ha
    repeat' first | (simp only [op_lenS, lenSV_str, op_lenV, lenV_slice, op_toInt, toIntV_int, op_iaddrS, RetK_inv, RetK_inv_exit, RetK_inv_ret, Nat.add_assoc, Nat.reduceEqDiff, Nat.reduceBEq, Nat.reduceBNe, Nat.le_min, Nat.le_add_right, Nat.min_self, Int.reduceBEq, Int.reduceBNe, Int.reduceLT, Int.reduceLE, Int.reduceEq, beq_self_eq_true, bne_self_eq_false, Bool.not_true, Bool.not_false, decide_true, decide_false, decide_eq_true_eq, Bool.and_eq_true, List.mapM_cons, List.mapM_nil, Option.bind_eq_bind, Option.pure_def, aeqK_agg, aeqK_scal, leavesK_nil, leavesK_cons, leafK_i, leafK_b, leafK_s, DrawK_nil, DrawK_cons, DrawK_guard, DResK_some, DGuardK_tt, DGuardK_ff, DGuardK_tf, DGuardK_ft, DGuardK_u, kept_load, Kept, KeptOne, closeOp, CO.quiet, CO.reads, CodeK_seq, CodeK_region, CodeK_skip, CodeK_ret, CodeK_exit, CodeK_cond, CodeK_block, CondK_true, CondK_false, RunK_cons, RunK_nil, RunK_guard, GuardK_tt, GuardK_ff, GuardK_tf, GuardK_ft, GuardK_u, ResK_some, RetK_nil, RetK_seq, RetK_seq_exit, RetK_seq_ret, RetK_block, RetK_block_ret, RetK_block_exit, RetK_block_exit_ne, op_mv, op_un, op_bin, op_load, loadV_ptr, op_faddr, faddrV_ptr, op_pick, pickV_true, pickV_false, pickV_bool, pickV_same, op_box, boxV_agg, op_call, op_build, op_ext, op_alloc, op_store, storeV_ptr, List.all_cons, List.all_nil, AV.one, AV.cells, Bool.and_self, Bool.and_true, Bool.true_and, put, CA.ev, List.set_cons_zero, List.set_cons_succ, List.getD_cons_zero, List.getD_cons_succ, abin, aint, aun, isShift, Option.map_some, Option.bind_some, List.map_cons, List.map_nil, Hp.n_withLow, Hp.n_push, Hp.n_set, Hp.low_withLow, Hp.low_push, Hp.low_set, Hp.get_push, Hp.get_set, Hp.get_withLow, readVar, readCell, readCells, writeCells, over, cut, fillA, Bool.false_eq_true, if_false, if_true, reduceIte, List.getElem?_cons_zero, List.getElem?_cons_succ, Nat.zero_add, Nat.add_zero, Nat.reduceAdd, Nat.reduceSub, Nat.reduceLT, Nat.reduceLeDiff, Nat.reduceEqDiff, List.length_cons, List.length_nil, List.take_succ_cons, List.take_zero, List.drop_zero, List.drop_succ_cons, List.cons_append, List.nil_append, List.append_nil, DoneK, resAll, resOne, AV.under, AV.unders, and_true, true_and, and_self, or_true, true_or, cond_true, cond_false, Nat.le_refl, Nat.add_eq_left, Nat.left_eq_add, Nat.add_right_cancel_iff, Nat.add_left_cancel_iff, op_append, ha, *]) | (refine GuardK_split (fun hb => ?_) (fun hb => ?_)) | (refine CondK_split (fun hb => ?_) (fun hb => ?_)) | (refine CodeK_regionD _ ?_) | (refine DGuardK_split (fun hb => ?_) (fun hb => ?_))
    refine ⟨_, rfl, .inl ⟨by simpa using hz, ?_⟩⟩
    rw [settle_keep (by simp) (by simp [AV.under])]
    exact ⟨rfl, rfl⟩
  · rw [if_neg hz] at ha
    repeat' first | (simp only [op_lenS, lenSV_str, op_lenV, lenV_slice, op_toInt, toIntV_int, op_iaddrS, RetK_inv, RetK_inv_exit, RetK_inv_ret, Nat.add_assoc, Nat.reduceEqDiff, Nat.reduceBEq, Nat.reduceBNe, Nat.le_min, Nat.le_add_right, Nat.min_self, Int.reduceBEq, Int.reduceBNe, Int.reduceLT, Int.reduceLE, Int.reduceEq, beq_self_eq_true, bne_self_eq_false, Bool.not_true, Bool.not_false, decide_true, decide_false, decide_eq_true_eq, Bool.and_eq_true, List.mapM_cons, List.mapM_nil, Option.bind_eq_bind, Option.pure_def, aeqK_agg, aeqK_scal, leavesK_nil, leavesK_cons, leafK_i, leafK_b, leafK_s, DrawK_nil, DrawK_cons, DrawK_guard, DResK_some, DGuardK_tt, DGuardK_ff, DGuardK_tf, DGuardK_ft, DGuardK_u, kept_load, Kept, KeptOne, closeOp, CO.quiet, CO.reads, CodeK_seq, CodeK_region, CodeK_skip, CodeK_ret, CodeK_exit, CodeK_cond, CodeK_block, CondK_true, CondK_false, RunK_cons, RunK_nil, RunK_guard, GuardK_tt, GuardK_ff, GuardK_tf, GuardK_ft, GuardK_u, ResK_some, RetK_nil, RetK_seq, RetK_seq_exit, RetK_seq_ret, RetK_block, RetK_block_ret, RetK_block_exit, RetK_block_exit_ne, op_mv, op_un, op_bin, op_load, loadV_ptr, op_faddr, faddrV_ptr, op_pick, pickV_true, pickV_false, pickV_bool, pickV_same, op_box, boxV_agg, op_call, op_build, op_ext, op_alloc, op_store, storeV_ptr, List.all_cons, List.all_nil, AV.one, AV.cells, Bool.and_self, Bool.and_true, Bool.true_and, put, CA.ev, List.set_cons_zero, List.set_cons_succ, List.getD_cons_zero, List.getD_cons_succ, abin, aint, aun, isShift, Option.map_some, Option.bind_some, List.map_cons, List.map_nil, Hp.n_withLow, Hp.n_push, Hp.n_set, Hp.low_withLow, Hp.low_push, Hp.low_set, Hp.get_push, Hp.get_set, Hp.get_withLow, readVar, readCell, readCells, writeCells, over, cut, fillA, Bool.false_eq_true, if_false, if_true, reduceIte, List.getElem?_cons_zero, List.getElem?_cons_succ, Nat.zero_add, Nat.add_zero, Nat.reduceAdd, Nat.reduceSub, Nat.reduceLT, Nat.reduceLeDiff, Nat.reduceEqDiff, List.length_cons, List.length_nil, List.take_succ_cons, List.take_zero, List.drop_zero, List.drop_succ_cons, List.cons_append, List.nil_append, List.append_nil, DoneK, resAll, resOne, AV.under, AV.unders, and_true, true_and, and_self, or_true, true_or, cond_true, cond_false, Nat.le_refl, Nat.add_eq_left, Nat.left_eq_add, Nat.add_right_cancel_iff, Nat.add_left_cancel_iff, op_append, ha, *]) | (refine GuardK_split (fun hb => ?_) (fun hb => ?_)) | (refine CondK_split (fun hb => ?_) (fun hb => ?_)) | (refine CodeK_regionD _ ?_) | (refine DGuardK_split (fun hb => ?_) (fun hb => ?_))
    refine ⟨_, rfl, .inr ⟨by simpa using hz, ?_⟩⟩
    rw [settle_new (by simp [AV.under])]
    refine ⟨rfl, rfl, ?_, fun b hb => ?_, ?_⟩
    · simp only [Hp.get_withLow, Hp.get_push, Hp.n_withLow, if_true]
    · have : ¬ b = h.n := by omega
      simp only [Hp.get_withLow, Hp.get_push, Hp.n_withLow, this, if_false]
    · simp only [Hp.low_withLow, Hp.low_push]; omega

/-- An append into room that is there. -/
theorem append_room_parts {h : AH} {b k c : Nat} {as' qs : List Prt} {rest : List AV} {x : AV} (hg : h.get b = some (.cells (pcells as' ++ rest) false)) (hk : k = as'.length) (hx : Parts h x qs) (hc : k + qs.length ≤ c) (hr : 8 * qs.length ≤ rest.length) :
    ∃ v h', appendRun 8 40 (.slice (some (b, 0)) k (.exact c)) x h = some (v, h') ∧ v = .slice (some (b, 0)) (k + qs.length) (.exact c) ∧ h'.n = h.n ∧ h'.get b = some (.cells (pcells (as' ++ qs) ++ rest.drop (8 * qs.length)) false) ∧
      (∀ b', b' ≠ b → h'.get b' = h.get b') ∧ min h.low b ≤ h'.low := by
  obtain ⟨h1, h2⟩ := elems_parts hx
  subst hk
  have hold : ∃ old, elemsOf 8 h (.slice (some (b, 0)) as'.length (.exact c)) = some old := by
    by_cases hz : as'.length = 0
    · exact ⟨[], by simp only [elemsOf, if_pos hz]⟩
    · refine ⟨pcells as', ?_⟩
      simp only [elemsOf, if_neg hz, readCells, hg]
      refine cut_of (by simp only [List.length_append, length_pcells]; omega) ?_
      rw [List.drop_zero, show as'.length * 8 = (pcells as').length by rw [length_pcells]; omega, List.take_left]
  obtain ⟨old, hold⟩ := hold
  have hrun : appendRun 8 40 (.slice (some (b, 0)) as'.length (.exact c)) x h =
      if qs.length = 0 then some (.slice (some (b, 0)) as'.length (.exact c), h) else (writeCells h b (0 + as'.length * 8) (pcells qs)).map fun h' => (.slice (some (b, 0)) (as'.length + qs.length) (.exact c), h') := by
    unfold appendRun
    rw [h2, Option.bind_some, h1, Option.bind_some]
    unfold appendCore
    simp only
    rw [hold, Option.bind_some]
    rw [if_pos hc]
  rw [hrun]
  by_cases hz : qs.length = 0
  · rw [if_pos hz]
    have hq : qs = [] := by simpa using hz
    subst hq
    exact ⟨_, h, rfl, rfl, rfl, by simpa using hg, fun _ _ => rfl, Nat.min_le_left _ _⟩
  · rw [if_neg hz]
    have hw : writeCells h b (0 + as'.length * 8) (pcells qs) = some (h.set b (.cells (pcells (as' ++ qs) ++ rest.drop (8 * qs.length)) false)) := by
      unfold writeCells
      rw [hg]
      simp only
      rw [if_pos (by
        rw [one_pcells]
        simp only [List.length_append, length_pcells, Bool.and_true, decide_eq_true_eq]; omega)]
      congr 2
      congr 1
      unfold over
      have e1 : 0 + as'.length * 8 = (pcells as').length := by rw [length_pcells]; omega
      rw [e1, List.take_left, pcells_append]
      congr 1
      rw [length_pcells qs, List.drop_append]
      have e2 : (pcells as').length + 8 * qs.length - (pcells as').length = 8 * qs.length := by omega
      rw [e2, List.drop_of_length_le (by omega), List.nil_append]
    rw [hw]
    exact ⟨_, _, rfl, rfl, rfl, Hp.get_set_self _ _ _, fun b' hb' => Hp.get_set_ne _ _ _ _ hb', by simp⟩

theorem length_reps (z : List AV) : ∀ n, (reps z n).length = n * z.length
  | 0 => by simp [reps]
  | n + 1 => by simp only [reps, List.length_append, length_reps z n, Nat.succ_mul]; omega

/-- A list that is lent: with two marks behind it. -/
def Lent (h : AH) (ps : List Prt) (v : AV) (h' : AH) : Prop :=
  v = .slice (some (h.n, 0)) (ps.length + 2) (.exact (ps.length + 2)) ∧ h.n < h'.n ∧ h'.get h.n = some (.cells (pcells (ps ++ [mark, mark])) false) ∧ (∀ b, b < h.n → h'.get b = h.get b) ∧ min h.low h.n ≤ h'.low

set_option maxRecDepth 100000 in
theorem lent_spec (ho : orc 67 = none) {v : AV} {ps : List Prt} {h : AH} (hp : Parts h v ps) (hl : ps.length * 40 ≤ 140737488355328) :
    ∃ v' h', acall orc T 67 [v] h = some (v', h') ∧ Lent h ps v' h' := by
  refine acall_facts ho tbl67 ?_
  obtain ⟨a, c, rfl, hle, hpa⟩ := id hp
  have w1 : IntKind.wrap .i64 ((ps.length : Int) + 2) = ((ps.length + 2 : Nat) : Int) := by
    rw [wrap_i64 (by omega) (by omega)]
    omega
  have m1 : ∀ hx : AH, mkSV 40 [.int .u8 0, .int .u8 0, .int .u8 0, .int .i64 0, .int .u8 0, .int .u8 0, .int .u8 0, .str []] (.int .i64 0) (.int .i64 ((ps.length + 2 : Nat) : Int)) hx =
      some (.slice (some (hx.n, 0)) 0 (.exact (ps.length + 2)), hx.push (.cells (reps [.int .u8 0, .int .u8 0, .int .u8 0, .int .i64 0, .int .u8 0, .int .u8 0, .int .u8 0, .str []] (ps.length + 2)) false)) := fun hx =>
    mkSV_at (h := hx) (l := 0) (by omega) (by omega) (by omega)
  generalize hz : reps [.int .u8 0, .int .u8 0, .int .u8 0, .int .i64 0, .int .u8 0, .int .u8 0, .int .u8 0, .str []] (ps.length + 2) = zs at m1
  have hzl : zs.length = (ps.length + 2) * 8 := by rw [← hz, length_reps]; rfl
  dsimp only [List.length, List.replicate, List.append, List.cons_append, List.nil_append, Nat.reduceAdd, Nat.reduceSub]
  repeat' first | (simp only [op_lenS, lenSV_str, op_lenV, lenV_slice, op_toInt, toIntV_int, op_iaddrS, RetK_inv, RetK_inv_exit, RetK_inv_ret, Nat.add_assoc, Nat.reduceEqDiff, Nat.reduceBEq, Nat.reduceBNe, Nat.le_min, Nat.le_add_right, Nat.min_self, Int.reduceBEq, Int.reduceBNe, Int.reduceLT, Int.reduceLE, Int.reduceEq, beq_self_eq_true, bne_self_eq_false, Bool.not_true, Bool.not_false, decide_true, decide_false, decide_eq_true_eq, Bool.and_eq_true, List.mapM_cons, List.mapM_nil, Option.bind_eq_bind, Option.pure_def, aeqK_agg, aeqK_scal, leavesK_nil, leavesK_cons, leafK_i, leafK_b, leafK_s, DrawK_nil, DrawK_cons, DrawK_guard, DResK_some, DGuardK_tt, DGuardK_ff, DGuardK_tf, DGuardK_ft, DGuardK_u, kept_load, Kept, KeptOne, closeOp, CO.quiet, CO.reads, CodeK_seq, CodeK_region, CodeK_skip, CodeK_ret, CodeK_exit, CodeK_cond, CodeK_block, CondK_true, CondK_false, RunK_cons, RunK_nil, RunK_guard, GuardK_tt, GuardK_ff, GuardK_tf, GuardK_ft, GuardK_u, ResK_some, RetK_nil, RetK_seq, RetK_seq_exit, RetK_seq_ret, RetK_block, RetK_block_ret, RetK_block_exit, RetK_block_exit_ne, op_mv, op_un, op_bin, op_load, loadV_ptr, op_faddr, faddrV_ptr, op_pick, pickV_true, pickV_false, pickV_bool, pickV_same, op_box, boxV_agg, op_call, op_build, op_ext, op_alloc, op_store, storeV_ptr, List.all_cons, List.all_nil, AV.one, AV.cells, Bool.and_self, Bool.and_true, Bool.true_and, put, CA.ev, List.set_cons_zero, List.set_cons_succ, List.getD_cons_zero, List.getD_cons_succ, abin, aint, aun, isShift, Option.map_some, Option.bind_some, List.map_cons, List.map_nil, Hp.n_withLow, Hp.n_push, Hp.n_set, Hp.low_withLow, Hp.low_push, Hp.low_set, Hp.get_push, Hp.get_set, Hp.get_withLow, readVar, readCell, readCells, writeCells, over, cut, fillA, Bool.false_eq_true, if_false, if_true, reduceIte, List.getElem?_cons_zero, List.getElem?_cons_succ, Nat.zero_add, Nat.add_zero, Nat.reduceAdd, Nat.reduceSub, Nat.reduceLT, Nat.reduceLeDiff, Nat.reduceEqDiff, List.length_cons, List.length_nil, List.take_succ_cons, List.take_zero, List.drop_zero, List.drop_succ_cons, List.cons_append, List.nil_append, List.append_nil, DoneK, resAll, resOne, AV.under, AV.unders, and_true, true_and, and_self, or_true, true_or, cond_true, cond_false, Nat.le_refl, Nat.add_eq_left, Nat.left_eq_add, Nat.add_right_cancel_iff, Nat.add_left_cancel_iff, op_mkS, w1, m1, op_append, *]) | (refine GuardK_split (fun hb => ?_) (fun hb => ?_)) | (refine CondK_split (fun hb => ?_) (fun hb => ?_)) | (refine CodeK_regionD _ ?_) | (refine DGuardK_split (fun hb => ?_) (fun hb => ?_))
  refine ResK_ex (append_room_parts (as' := []) (qs := ps) (rest := zs) ?_ rfl ?_ ?_ ?_) fun v1 h1 ⟨e1, e2, e3, e4, e5⟩ => ?_
  · simp only [Hp.get_push, Hp.n_withLow, if_true, pcells, List.flatMap_nil, List.nil_append]
  · exact hp.mono (by simp) fun b hb => by
      have : ¬ b = h.n := by omega
      simp only [Hp.get_push, Hp.n_withLow, this, if_false, Hp.get_withLow]
  · omega
  · omega
  · subst e1
    simp only [Hp.n_push, Hp.n_withLow, Nat.zero_add, List.nil_append] at e2 e3 e5
    simp only [Nat.zero_add]
    repeat' first | (simp only [op_lenS, lenSV_str, op_lenV, lenV_slice, op_toInt, toIntV_int, op_iaddrS, RetK_inv, RetK_inv_exit, RetK_inv_ret, Nat.add_assoc, Nat.reduceEqDiff, Nat.reduceBEq, Nat.reduceBNe, Nat.le_min, Nat.le_add_right, Nat.min_self, Int.reduceBEq, Int.reduceBNe, Int.reduceLT, Int.reduceLE, Int.reduceEq, beq_self_eq_true, bne_self_eq_false, Bool.not_true, Bool.not_false, decide_true, decide_false, decide_eq_true_eq, Bool.and_eq_true, List.mapM_cons, List.mapM_nil, Option.bind_eq_bind, Option.pure_def, aeqK_agg, aeqK_scal, leavesK_nil, leavesK_cons, leafK_i, leafK_b, leafK_s, DrawK_nil, DrawK_cons, DrawK_guard, DResK_some, DGuardK_tt, DGuardK_ff, DGuardK_tf, DGuardK_ft, DGuardK_u, kept_load, Kept, KeptOne, closeOp, CO.quiet, CO.reads, CodeK_seq, CodeK_region, CodeK_skip, CodeK_ret, CodeK_exit, CodeK_cond, CodeK_block, CondK_true, CondK_false, RunK_cons, RunK_nil, RunK_guard, GuardK_tt, GuardK_ff, GuardK_tf, GuardK_ft, GuardK_u, ResK_some, RetK_nil, RetK_seq, RetK_seq_exit, RetK_seq_ret, RetK_block, RetK_block_ret, RetK_block_exit, RetK_block_exit_ne, op_mv, op_un, op_bin, op_load, loadV_ptr, op_faddr, faddrV_ptr, op_pick, pickV_true, pickV_false, pickV_bool, pickV_same, op_box, boxV_agg, op_call, op_build, op_ext, op_alloc, op_store, storeV_ptr, List.all_cons, List.all_nil, AV.one, AV.cells, Bool.and_self, Bool.and_true, Bool.true_and, put, CA.ev, List.set_cons_zero, List.set_cons_succ, List.getD_cons_zero, List.getD_cons_succ, abin, aint, aun, isShift, Option.map_some, Option.bind_some, List.map_cons, List.map_nil, Hp.n_withLow, Hp.n_push, Hp.n_set, Hp.low_withLow, Hp.low_push, Hp.low_set, Hp.get_push, Hp.get_set, Hp.get_withLow, readVar, readCell, readCells, writeCells, over, cut, fillA, Bool.false_eq_true, if_false, if_true, reduceIte, List.getElem?_cons_zero, List.getElem?_cons_succ, Nat.zero_add, Nat.add_zero, Nat.reduceAdd, Nat.reduceSub, Nat.reduceLT, Nat.reduceLeDiff, Nat.reduceEqDiff, List.length_cons, List.length_nil, List.take_succ_cons, List.take_zero, List.drop_zero, List.drop_succ_cons, List.cons_append, List.nil_append, List.append_nil, DoneK, resAll, resOne, AV.under, AV.unders, and_true, true_and, and_self, or_true, true_or, cond_true, cond_false, Nat.le_refl, Nat.add_eq_left, Nat.left_eq_add, Nat.add_right_cancel_iff, Nat.add_left_cancel_iff, op_litS, op_append, reps, *]) | (refine GuardK_split (fun hb => ?_) (fun hb => ?_)) | (refine CondK_split (fun hb => ?_) (fun hb => ?_)) | (refine CodeK_regionD _ ?_) | (refine DGuardK_split (fun hb => ?_) (fun hb => ?_))
    refine ResK_ex (append_room_parts (as' := ps) (qs := [mark, mark]) (rest := zs.drop (8 * ps.length)) ?_ rfl ?_ ?_ ?_) fun v2 h2 ⟨f1, f2, f3, f4, f5⟩ => ?_
    · have : ¬ h.n = h1.n := by omega
      simp only [Hp.get_push, this, if_false, e3]
    · refine parts_block (qs := []) (ro := false) ?_ ?_ rfl (by decide)
      · rw [Hp.get_push, if_pos e2.symm]
        rfl
      · rw [Hp.n_push]; omega
    · simp
    · simp only [List.length_drop, List.length_cons, List.length_nil]; omega
    · subst f1
      simp only [List.length_cons, List.length_nil, Nat.zero_add, Nat.reduceAdd]
      repeat' first | (simp only [op_lenS, lenSV_str, op_lenV, lenV_slice, op_toInt, toIntV_int, op_iaddrS, RetK_inv, RetK_inv_exit, RetK_inv_ret, Nat.add_assoc, Nat.reduceEqDiff, Nat.reduceBEq, Nat.reduceBNe, Nat.le_min, Nat.le_add_right, Nat.min_self, Int.reduceBEq, Int.reduceBNe, Int.reduceLT, Int.reduceLE, Int.reduceEq, beq_self_eq_true, bne_self_eq_false, Bool.not_true, Bool.not_false, decide_true, decide_false, decide_eq_true_eq, Bool.and_eq_true, List.mapM_cons, List.mapM_nil, Option.bind_eq_bind, Option.pure_def, aeqK_agg, aeqK_scal, leavesK_nil, leavesK_cons, leafK_i, leafK_b, leafK_s, DrawK_nil, DrawK_cons, DrawK_guard, DResK_some, DGuardK_tt, DGuardK_ff, DGuardK_tf, DGuardK_ft, DGuardK_u, kept_load, Kept, KeptOne, closeOp, CO.quiet, CO.reads, CodeK_seq, CodeK_region, CodeK_skip, CodeK_ret, CodeK_exit, CodeK_cond, CodeK_block, CondK_true, CondK_false, RunK_cons, RunK_nil, RunK_guard, GuardK_tt, GuardK_ff, GuardK_tf, GuardK_ft, GuardK_u, ResK_some, RetK_nil, RetK_seq, RetK_seq_exit, RetK_seq_ret, RetK_block, RetK_block_ret, RetK_block_exit, RetK_block_exit_ne, op_mv, op_un, op_bin, op_load, loadV_ptr, op_faddr, faddrV_ptr, op_pick, pickV_true, pickV_false, pickV_bool, pickV_same, op_box, boxV_agg, op_call, op_build, op_ext, op_alloc, op_store, storeV_ptr, List.all_cons, List.all_nil, AV.one, AV.cells, Bool.and_self, Bool.and_true, Bool.true_and, put, CA.ev, List.set_cons_zero, List.set_cons_succ, List.getD_cons_zero, List.getD_cons_succ, abin, aint, aun, isShift, Option.map_some, Option.bind_some, List.map_cons, List.map_nil, Hp.n_withLow, Hp.n_push, Hp.n_set, Hp.low_withLow, Hp.low_push, Hp.low_set, Hp.get_push, Hp.get_set, Hp.get_withLow, readVar, readCell, readCells, writeCells, over, cut, fillA, Bool.false_eq_true, if_false, if_true, reduceIte, List.getElem?_cons_zero, List.getElem?_cons_succ, Nat.zero_add, Nat.add_zero, Nat.reduceAdd, Nat.reduceSub, Nat.reduceLT, Nat.reduceLeDiff, Nat.reduceEqDiff, List.length_cons, List.length_nil, List.take_succ_cons, List.take_zero, List.drop_zero, List.drop_succ_cons, List.cons_append, List.nil_append, List.append_nil, DoneK, resAll, resOne, AV.under, AV.unders, and_true, true_and, and_self, or_true, true_or, cond_true, cond_false, Nat.le_refl, Nat.add_eq_left, Nat.left_eq_add, Nat.add_right_cancel_iff, Nat.add_left_cancel_iff, *]) | (refine GuardK_split (fun hb => ?_) (fun hb => ?_)) | (refine CondK_split (fun hb => ?_) (fun hb => ?_)) | (refine CodeK_regionD _ ?_) | (refine DGuardK_split (fun hb => ?_) (fun hb => ?_))
      refine ⟨_, rfl, ?_⟩
      rw [settle_new (by simp [AV.under])]
      have hnil : List.drop (8 * [mark, mark].length) (List.drop (8 * ps.length) zs) = [] := by
        apply List.drop_of_length_le
        simp only [List.length_drop, List.length_cons, List.length_nil]; omega
      rw [hnil, List.append_nil] at f3
      simp only [Hp.n_push] at f2
      refine ⟨rfl, ?_, ?_, fun b hb => ?_, ?_⟩
      · simp only [Hp.n_withLow]; omega
      · simp only [Hp.get_withLow]; exact f3
      · have n1 : ¬ b = h.n := by omega
        have n2 : ¬ b = h1.n := by omega
        simp only [Hp.get_withLow]
        rw [f4 b n1, Hp.get_push, if_neg n2, e4 b n1, Hp.get_push, Hp.n_withLow, if_neg n1, Hp.get_withLow]
      · simp only [Hp.low_withLow]
        simp only [Hp.low_push, Hp.low_withLow] at e5 f5
        omega
end Go.Proofs.Cards
