/- Two memories each, any calls: the answers are the same. -/
import Derived.Test.YtnhkllnggpncfaaJsAdd
namespace Go.Proofs.Js
open Go Go.Fs
set_option linter.unusedSimpArgs false
set_option linter.unusedVariables false
variable {orc : Orc}

theorem DResK_ex {call : Rec} {Q : AEx → List AV → AH → Prop} {st : List Fr} {r : Option (AV × AH)} {o : CD} {os : List CD} {pr : List (Nat × Nat × CO × AV)} {hs : List AH} {tm : List AV} {h : AH} {R : AV → AH → Prop} (hr : ∃ v h', r = some (v, h') ∧ R v h')
    (hk : ∀ v h', R v h' → DrawK call Q st os (if o.op.reads then pr ++ [(o.lo, o.hi, closeOp tm o.op, v)] else pr) (if o.op.quiet then hs else hs ++ [h]) (put tm o.dst v) h') : DResK call Q st r o os pr hs tm h := by
  obtain ⟨v, h', h1, h2⟩ := hr
  exact ⟨v, h', h1, hk v h' h2⟩
theorem settle_fst (h h' : AH) (v : AV) : (Fs.settle h h' v).1 = v := by unfold Fs.settle; split <;> rfl

theorem RealM.mono {h h' : AH} {own own' : Nat → Nat} {c r m : Nat} {E : Ent} (hm : RealM h own c r m E) (hn : h.n ≤ h'.n) (ho : ∀ b, b < h.n → own' b = own b) (hg : ∀ b, b < h.n → (own b = c ∨ own b = c + 1) → h'.get b = h.get b) : RealM h' own' c r m E :=
  ⟨by rw [hg r hm.rn (.inl hm.ro), hm.box], by rw [hg m hm.mn (.inr hm.mo), hm.map], Nat.lt_of_lt_of_le hm.rn hn, Nat.lt_of_lt_of_le hm.mn hn, by rw [ho r hm.rn, hm.ro], by rw [ho m hm.mn, hm.mo]⟩
theorem RefM.mono {h h' : AH} {own own' : Nat → Nat} {c s : Nat} {vF vO : AV} {E : Ent} (hm : RefM h own c s vF vO E) (hn : h.n ≤ h'.n) (ho : ∀ b, b < h.n → own' b = own b) (hg : ∀ b, b < h.n → (own b = c ∨ own b = c + 1 ∨ own b = c + 2) → h'.get b = h.get b) : RefM h' own' c s vF vO E := by
  refine ⟨by rw [hg s hm.sn (.inl hm.so), hm.box], Nat.lt_of_lt_of_le hm.sn hn, by rw [ho s hm.sn, hm.so], ?_, ?_⟩
  · rcases hm.forms with h1 | ⟨h1, b, h2, h3, h4, h5⟩
    · exact .inl h1
    · exact .inr ⟨h1, b, h2, Nat.lt_of_lt_of_le h3 hn, by rw [ho b h3, h4], by rw [hg b h3 (.inr (.inl h4)), h5]⟩
  · rcases hm.often with h1 | ⟨h1, b, h2, h3, h4, h5⟩
    · exact .inl h1
    · exact .inr ⟨h1, b, h2, Nat.lt_of_lt_of_le h3 hn, by rw [ho b h3, h4], by rw [hg b h3 (.inr (.inr h4)), h5]⟩

/-- All four, and the two pairs of pointers, and the list. -/
structure Wld (h : AH) (own : Nat → Nat) (A B L : Nat) (row : Option Blk) (r m s : Bool → Nat) (E F : Bool → Ent) : Prop where
  hA : h.get A = some (.cells [.ptr (some (r false, 0)), .ptr (some (r true, 0))] false)
  hB : h.get B = some (.cells [.ptr (some (s false, 0)), .ptr (some (s true, 0))] false)
  An : A < h.n
  Bn : B < h.n
  oA : own A = 100
  oB : own B = 101
  hL : row.isSome = true → L < h.n ∧ own L = 102 ∧ h.get L = row
  real : ∀ k, RealM h own (10 * k.toNat + 1) (r k) (m k) (E k)
  ref : ∀ k, ∃ vF vO, RefM h own (10 * k.toNat + 3) (s k) vF vO (F k)

def upd (E : Bool → Ent) (k : Bool) (e : Ent) : Bool → Ent := fun j => if j = k then e else E j

theorem Wld.real_add {h h1 : AH} {own : Nat → Nat} {A B L : Nat} {row : Option Blk} {r m s : Bool → Nat} {E F : Bool → Ent} (w : Wld h own A B L row r m s E F) (k : Bool) {e : Ent} (hn : h1.n = h.n) (hg : h1.get (m k) = some (.map (mes e))) (ho : ∀ b, b ≠ m k → h1.get b = h.get b) :
    Wld h1 own A B L row r m s (upd E k e) F := by
  have om := (w.real k).mo
  have key : ∀ b, own b ≠ 10 * k.toNat + 2 → h1.get b = h.get b := fun b hb => ho b fun e => hb (by rw [e, om])
  have hk : k.toNat < 2 := by cases k <;> decide
  refine ⟨by rw [key A (by rw [w.oA]; omega), w.hA], by rw [key B (by rw [w.oB]; omega), w.hB], by rw [hn]; exact w.An, by rw [hn]; exact w.Bn, w.oA, w.oB, fun hr => ?_, fun j => ?_, fun j => ?_⟩
  · obtain ⟨a, b, c⟩ := w.hL hr
    exact ⟨by rw [hn]; exact a, b, by rw [key L (by rw [b]; omega), c]⟩
  · by_cases hj : j = k
    · subst hj
      have hm := w.real j
      exact ⟨by rw [key _ (by rw [hm.ro]; omega), hm.box], by simp only [upd, if_true]; exact hg, by rw [hn]; exact hm.rn, by rw [hn]; exact hm.mn, hm.ro, hm.mo⟩
    · simp only [upd, if_neg hj]
      have hne : j.toNat ≠ k.toNat := by cases j <;> cases k <;> first | (exact absurd rfl hj) | decide
      have hj2 : j.toNat < 2 := by cases j <;> decide
      exact (w.real j).mono (by omega) (fun _ _ => rfl) fun b _ hc => key b (by omega)
  · obtain ⟨vF, vO, hm⟩ := w.ref j
    have hj2 : j.toNat < 2 := by cases j <;> decide
    exact ⟨vF, vO, hm.mono (by omega) (fun _ _ => rfl) fun b _ hc => key b (by omega)⟩

theorem Wld.ref_add {h h1 : AH} {own : Nat → Nat} {A B L : Nat} {row : Option Blk} {r m s : Bool → Nat} {E F : Bool → Ent} (w : Wld h own A B L row r m s E F) (k : Bool) {f : List UInt8} {v : AV} (ha : AddR h own (10 * k.toNat + 3) (s k) (F k) f v h1) :
    ∃ own', Wld h1 own' A B L row r m s E (upd F k (addE f (F k))) := by
  obtain ⟨_, hn, own', vF', vO', ho, hm', hg⟩ := ha
  have hk : k.toNat < 2 := by cases k <;> decide
  refine ⟨own', ⟨by rw [hg A w.An (by rw [w.oA]; omega) (by rw [w.oA]; omega) (by rw [w.oA]; omega), w.hA], by rw [hg B w.Bn (by rw [w.oB]; omega) (by rw [w.oB]; omega) (by rw [w.oB]; omega), w.hB], Nat.lt_of_lt_of_le w.An hn, Nat.lt_of_lt_of_le w.Bn hn, by rw [ho A w.An, w.oA], by rw [ho B w.Bn, w.oB], fun hr => ?_, fun j => ?_, fun j => ?_⟩⟩
  · obtain ⟨a, b, c⟩ := w.hL hr
    exact ⟨Nat.lt_of_lt_of_le a hn, by rw [ho L a, b], by rw [hg L a (by rw [b]; omega) (by rw [b]; omega) (by rw [b]; omega), c]⟩
  · have hj2 : j.toNat < 2 := by cases j <;> decide
    exact (w.real j).mono hn ho fun b hb hc => hg b hb (by omega) (by omega) (by omega)
  · by_cases hj : j = k
    · subst hj
      simp only [upd, if_true]
      exact ⟨vF', vO', hm'⟩
    · simp only [upd, if_neg hj]
      have hne : j.toNat ≠ k.toNat := by cases j <;> cases k <;> first | (exact absurd rfl hj) | decide
      have hj2 : j.toNat < 2 := by cases j <;> decide
      obtain ⟨vF, vO, hm⟩ := w.ref j
      exact ⟨vF, vO, hm.mono hn ho fun b hb hc => hg b hb (by omega) (by omega) (by omega)⟩

structure Note where
  kind : Int
  on : Int
  form : List UInt8

/-- A slice that holds these calls. -/
def Notes (h : AH) (v : AV) (ns : List Note) : Prop :=
  ∃ (a : Option (Nat × Nat)) (c : Cap), v = .slice a ns.length c ∧
    (ns = [] ∨ ∃ (b : Nat) (cells : List AV) (ro : Bool), a = some (b, 0) ∧ b < h.n ∧ h.get b = some (.cells cells ro) ∧ ∀ (i : Nat) (x : Note), ns[i]? = some x → cells[i * 3]? = some (.int .i64 x.kind) ∧ cells[i * 3 + 1]? = some (.int .i64 x.on) ∧ cells[i * 3 + 2]? = some (.str x.form))

structure InvL (v : AV) (ns : List Note) (A B L : Nat) (row : Option Blk) (r m s : Bool → Nat) (n : Nat) (tm : List AV) (h : AH) : Prop where
  len : tm.length = 89
  t0 : tm.getD 0 AV.undef = v
  t3 : tm.getD 3 AV.undef = .ptr (some (A, 0))
  t4 : tm.getD 4 AV.undef = .ptr (some (B, 0))
  st : ∃ (i : Nat) (own : Nat → Nat) (E : Bool → Ent), n = ns.length - i ∧ i ≤ ns.length ∧ tm.getD 5 AV.undef = .int .i64 i ∧ Wld h own A B L row r m s E E ∧ ∀ k, (E k).length ≤ i ∧ ∀ e ∈ E k, e.2 ≤ i

theorem addE_ok {f : List UInt8} {E : Ent} {i : Nat} (h1 : E.length ≤ i) (h2 : ∀ e ∈ E, e.2 ≤ i) : (addE f E).length ≤ i + 1 ∧ ∀ e ∈ addE f E, e.2 ≤ i + 1 := by
  unfold addE
  split
  · exact ⟨by omega, fun e he => by have := h2 e he; omega⟩
  · refine ⟨by have := put_length f (findE f E + 1) E; omega, ?_⟩
    have := find_le (f := f) h2
    exact put_le (by omega) fun e he => by have := h2 e he; omega

theorem addA_ints (f : List UInt8) (E : Ent) : ∃ x y : Int, addA f E = .tuple [.int .i64 x, .int .i64 y] := by
  unfold addA
  split
  · exact ⟨_, _, rfl⟩
  · exact ⟨_, _, rfl⟩

set_option maxRecDepth 100000 in
set_option maxHeartbeats 8000000 in
theorem law_spec (ho : ∀ f, f ∈ [4, 22, 23, 24, 25, 26, 27, 66] → orc f = none) {ns : List Note} {v : AV} {h : AH} (hv : Notes h v ns) :
    ∃ h', acall orc T 4 [v] h = some (.bool true, h') := by
  suffices hs : ∃ v1 h', acall orc T 4 [v] h = some (v1, h') ∧ v1 = .bool true by
    obtain ⟨v1, h', h1, rfl⟩ := hs
    exact ⟨h', h1⟩
  refine acall_facts (R := fun v1 _ => v1 = .bool true) (ho 4 (by simp)) tbl4 ?_
  simp only [settle_fst]
  obtain ⟨a, c, rfl, hrow⟩ := hv
  generalize hm : ns.length = m at *
  dsimp only [List.length, List.replicate, List.append, List.cons_append, List.nil_append, Nat.reduceAdd, Nat.reduceSub]
  by_cases hlen : 400 < m
  · have l1 : decide ((400 : Int) < (m : Int)) = true := by simp; omega
    repeat' first | (simp only [op_lenS, lenSV_str, op_lenV, lenV_slice, op_toInt, toIntV_int, op_iaddrS, RetK_inv, RetK_inv_exit, RetK_inv_ret, Nat.add_assoc, Nat.reduceEqDiff, Nat.reduceBEq, Nat.reduceBNe, Nat.le_min, Nat.le_add_right, Nat.min_self, Int.reduceBEq, Int.reduceBNe, Int.reduceLT, Int.reduceLE, Int.reduceEq, beq_self_eq_true, bne_self_eq_false, Bool.not_true, Bool.not_false, decide_true, decide_false, decide_eq_true_eq, Bool.and_eq_true, List.mapM_cons, List.mapM_nil, Option.bind_eq_bind, Option.pure_def, aeqK_agg, aeqK_scal, leavesK_nil, leavesK_cons, leafK_i, leafK_b, leafK_s, DrawK_nil, DrawK_cons, DrawK_guard, DResK_some, DGuardK_tt, DGuardK_ff, DGuardK_tf, DGuardK_ft, DGuardK_u, kept_load, Kept, KeptOne, closeOp, CO.quiet, CO.reads, CodeK_seq, CodeK_region, CodeK_skip, CodeK_ret, CodeK_exit, CodeK_cond, CodeK_block, CondK_true, CondK_false, RunK_cons, RunK_nil, RunK_guard, GuardK_tt, GuardK_ff, GuardK_tf, GuardK_ft, GuardK_u, ResK_some, RetK_nil, RetK_seq, RetK_seq_exit, RetK_seq_ret, RetK_block, RetK_block_ret, RetK_block_exit, RetK_block_exit_ne, op_mv, op_un, op_bin, op_load, loadV_ptr, op_faddr, faddrV_ptr, op_pick, pickV_true, pickV_false, pickV_bool, pickV_same, op_box, boxV_agg, op_call, op_build, op_ext, op_alloc, op_store, storeV_ptr, List.all_cons, List.all_nil, AV.one, AV.cells, Bool.and_self, Bool.and_true, Bool.true_and, put, CA.ev, List.set_cons_zero, List.set_cons_succ, List.getD_cons_zero, List.getD_cons_succ, abin, aint, aun, isShift, Option.map_some, Option.bind_some, List.map_cons, List.map_nil, Hp.n_withLow, Hp.n_push, Hp.n_set, Hp.low_withLow, Hp.low_push, Hp.low_set, Hp.get_push, Hp.get_set, Hp.get_withLow, readVar, readCell, readCells, writeCells, over, cut, fillA, Bool.false_eq_true, if_false, if_true, reduceIte, List.getElem?_cons_zero, List.getElem?_cons_succ, Nat.zero_add, Nat.add_zero, Nat.reduceAdd, Nat.reduceSub, Nat.reduceLT, Nat.reduceLeDiff, Nat.reduceEqDiff, List.length_cons, List.length_nil, List.take_succ_cons, List.take_zero, List.drop_zero, List.drop_succ_cons, List.cons_append, List.nil_append, List.append_nil, DoneK, resAll, resOne, AV.under, AV.unders, and_true, true_and, and_self, or_true, true_or, cond_true, cond_false, Nat.le_refl, Nat.add_eq_left, Nat.left_eq_add, Nat.add_right_cancel_iff, Nat.add_left_cancel_iff, l1, Option.some.injEq, *]) | (refine GuardK_split (fun hb => ?_) (fun hb => ?_)) | (refine CondK_split (fun hb => ?_) (fun hb => ?_)) | (refine CodeK_regionD _ ?_) | (refine DGuardK_split (fun hb => ?_) (fun hb => ?_))
    exact ⟨_, rfl, rfl⟩
  have l1 : decide ((400 : Int) < (m : Int)) = false := by simp; omega
  repeat' first | (simp only [op_lenS, lenSV_str, op_lenV, lenV_slice, op_toInt, toIntV_int, op_iaddrS, RetK_inv, RetK_inv_exit, RetK_inv_ret, Nat.add_assoc, Nat.reduceEqDiff, Nat.reduceBEq, Nat.reduceBNe, Nat.le_min, Nat.le_add_right, Nat.min_self, Int.reduceBEq, Int.reduceBNe, Int.reduceLT, Int.reduceLE, Int.reduceEq, beq_self_eq_true, bne_self_eq_false, Bool.not_true, Bool.not_false, decide_true, decide_false, decide_eq_true_eq, Bool.and_eq_true, List.mapM_cons, List.mapM_nil, Option.bind_eq_bind, Option.pure_def, aeqK_agg, aeqK_scal, leavesK_nil, leavesK_cons, leafK_i, leafK_b, leafK_s, DrawK_nil, DrawK_cons, DrawK_guard, DResK_some, DGuardK_tt, DGuardK_ff, DGuardK_tf, DGuardK_ft, DGuardK_u, kept_load, Kept, KeptOne, closeOp, CO.quiet, CO.reads, CodeK_seq, CodeK_region, CodeK_skip, CodeK_ret, CodeK_exit, CodeK_cond, CodeK_block, CondK_true, CondK_false, RunK_cons, RunK_nil, RunK_guard, GuardK_tt, GuardK_ff, GuardK_tf, GuardK_ft, GuardK_u, ResK_some, RetK_nil, RetK_seq, RetK_seq_exit, RetK_seq_ret, RetK_block, RetK_block_ret, RetK_block_exit, RetK_block_exit_ne, op_mv, op_un, op_bin, op_load, loadV_ptr, op_faddr, faddrV_ptr, op_pick, pickV_true, pickV_false, pickV_bool, pickV_same, op_box, boxV_agg, op_call, op_build, op_ext, op_alloc, op_store, storeV_ptr, List.all_cons, List.all_nil, AV.one, AV.cells, Bool.and_self, Bool.and_true, Bool.true_and, put, CA.ev, List.set_cons_zero, List.set_cons_succ, List.getD_cons_zero, List.getD_cons_succ, abin, aint, aun, isShift, Option.map_some, Option.bind_some, List.map_cons, List.map_nil, Hp.n_withLow, Hp.n_push, Hp.n_set, Hp.low_withLow, Hp.low_push, Hp.low_set, Hp.get_push, Hp.get_set, Hp.get_withLow, readVar, readCell, readCells, writeCells, over, cut, fillA, Bool.false_eq_true, if_false, if_true, reduceIte, List.getElem?_cons_zero, List.getElem?_cons_succ, Nat.zero_add, Nat.add_zero, Nat.reduceAdd, Nat.reduceSub, Nat.reduceLT, Nat.reduceLeDiff, Nat.reduceEqDiff, List.length_cons, List.length_nil, List.take_succ_cons, List.take_zero, List.drop_zero, List.drop_succ_cons, List.cons_append, List.nil_append, List.append_nil, DoneK, resAll, resOne, AV.under, AV.unders, and_true, true_and, and_self, or_true, true_or, cond_true, cond_false, Nat.le_refl, Nat.add_eq_left, Nat.left_eq_add, Nat.add_right_cancel_iff, Nat.add_left_cancel_iff, l1, *]) | (refine GuardK_split (fun hb => ?_) (fun hb => ?_)) | (refine CondK_split (fun hb => ?_) (fun hb => ?_)) | (refine CodeK_regionD _ ?_) | (refine DGuardK_split (fun hb => ?_) (fun hb => ?_))
  refine ResK_ex (realnew_spec (ho 22 (by simp)) _) fun v1 h1 hL => ?_
  obtain ⟨rfl, a1, a2, a3, a4⟩ := hL
  simp only [Hp.n_withLow, Hp.get_withLow] at a1 a2 a3 a4
  repeat' first | (simp only [op_lenS, lenSV_str, op_lenV, lenV_slice, op_toInt, toIntV_int, op_iaddrS, RetK_inv, RetK_inv_exit, RetK_inv_ret, Nat.add_assoc, Nat.reduceEqDiff, Nat.reduceBEq, Nat.reduceBNe, Nat.le_min, Nat.le_add_right, Nat.min_self, Int.reduceBEq, Int.reduceBNe, Int.reduceLT, Int.reduceLE, Int.reduceEq, beq_self_eq_true, bne_self_eq_false, Bool.not_true, Bool.not_false, decide_true, decide_false, decide_eq_true_eq, Bool.and_eq_true, List.mapM_cons, List.mapM_nil, Option.bind_eq_bind, Option.pure_def, aeqK_agg, aeqK_scal, leavesK_nil, leavesK_cons, leafK_i, leafK_b, leafK_s, DrawK_nil, DrawK_cons, DrawK_guard, DResK_some, DGuardK_tt, DGuardK_ff, DGuardK_tf, DGuardK_ft, DGuardK_u, kept_load, Kept, KeptOne, closeOp, CO.quiet, CO.reads, CodeK_seq, CodeK_region, CodeK_skip, CodeK_ret, CodeK_exit, CodeK_cond, CodeK_block, CondK_true, CondK_false, RunK_cons, RunK_nil, RunK_guard, GuardK_tt, GuardK_ff, GuardK_tf, GuardK_ft, GuardK_u, ResK_some, RetK_nil, RetK_seq, RetK_seq_exit, RetK_seq_ret, RetK_block, RetK_block_ret, RetK_block_exit, RetK_block_exit_ne, op_mv, op_un, op_bin, op_load, loadV_ptr, op_faddr, faddrV_ptr, op_pick, pickV_true, pickV_false, pickV_bool, pickV_same, op_box, boxV_agg, op_call, op_build, op_ext, op_alloc, op_store, storeV_ptr, List.all_cons, List.all_nil, AV.one, AV.cells, Bool.and_self, Bool.and_true, Bool.true_and, put, CA.ev, List.set_cons_zero, List.set_cons_succ, List.getD_cons_zero, List.getD_cons_succ, abin, aint, aun, isShift, Option.map_some, Option.bind_some, List.map_cons, List.map_nil, Hp.n_withLow, Hp.n_push, Hp.n_set, Hp.low_withLow, Hp.low_push, Hp.low_set, Hp.get_push, Hp.get_set, Hp.get_withLow, readVar, readCell, readCells, writeCells, over, cut, fillA, Bool.false_eq_true, if_false, if_true, reduceIte, List.getElem?_cons_zero, List.getElem?_cons_succ, Nat.zero_add, Nat.add_zero, Nat.reduceAdd, Nat.reduceSub, Nat.reduceLT, Nat.reduceLeDiff, Nat.reduceEqDiff, List.length_cons, List.length_nil, List.take_succ_cons, List.take_zero, List.drop_zero, List.drop_succ_cons, List.cons_append, List.nil_append, List.append_nil, DoneK, resAll, resOne, AV.under, AV.unders, and_true, true_and, and_self, or_true, true_or, cond_true, cond_false, Nat.le_refl, Nat.add_eq_left, Nat.left_eq_add, Nat.add_right_cancel_iff, Nat.add_left_cancel_iff, *]) | (refine GuardK_split (fun hb => ?_) (fun hb => ?_)) | (refine CondK_split (fun hb => ?_) (fun hb => ?_)) | (refine CodeK_regionD _ ?_) | (refine DGuardK_split (fun hb => ?_) (fun hb => ?_))
  refine ResK_ex (realnew_spec (ho 22 (by simp)) _) fun v1 h2 hL => ?_
  obtain ⟨rfl, b1, b2, b3, b4⟩ := hL
  simp only [a1] at b1 b2 b3 b4
  repeat' first | (simp only [op_lenS, lenSV_str, op_lenV, lenV_slice, op_toInt, toIntV_int, op_iaddrS, RetK_inv, RetK_inv_exit, RetK_inv_ret, Nat.add_assoc, Nat.reduceEqDiff, Nat.reduceBEq, Nat.reduceBNe, Nat.le_min, Nat.le_add_right, Nat.min_self, Int.reduceBEq, Int.reduceBNe, Int.reduceLT, Int.reduceLE, Int.reduceEq, beq_self_eq_true, bne_self_eq_false, Bool.not_true, Bool.not_false, decide_true, decide_false, decide_eq_true_eq, Bool.and_eq_true, List.mapM_cons, List.mapM_nil, Option.bind_eq_bind, Option.pure_def, aeqK_agg, aeqK_scal, leavesK_nil, leavesK_cons, leafK_i, leafK_b, leafK_s, DrawK_nil, DrawK_cons, DrawK_guard, DResK_some, DGuardK_tt, DGuardK_ff, DGuardK_tf, DGuardK_ft, DGuardK_u, kept_load, Kept, KeptOne, closeOp, CO.quiet, CO.reads, CodeK_seq, CodeK_region, CodeK_skip, CodeK_ret, CodeK_exit, CodeK_cond, CodeK_block, CondK_true, CondK_false, RunK_cons, RunK_nil, RunK_guard, GuardK_tt, GuardK_ff, GuardK_tf, GuardK_ft, GuardK_u, ResK_some, RetK_nil, RetK_seq, RetK_seq_exit, RetK_seq_ret, RetK_block, RetK_block_ret, RetK_block_exit, RetK_block_exit_ne, op_mv, op_un, op_bin, op_load, loadV_ptr, op_faddr, faddrV_ptr, op_pick, pickV_true, pickV_false, pickV_bool, pickV_same, op_box, boxV_agg, op_call, op_build, op_ext, op_alloc, op_store, storeV_ptr, List.all_cons, List.all_nil, AV.one, AV.cells, Bool.and_self, Bool.and_true, Bool.true_and, put, CA.ev, List.set_cons_zero, List.set_cons_succ, List.getD_cons_zero, List.getD_cons_succ, abin, aint, aun, isShift, Option.map_some, Option.bind_some, List.map_cons, List.map_nil, Hp.n_withLow, Hp.n_push, Hp.n_set, Hp.low_withLow, Hp.low_push, Hp.low_set, Hp.get_push, Hp.get_set, Hp.get_withLow, readVar, readCell, readCells, writeCells, over, cut, fillA, Bool.false_eq_true, if_false, if_true, reduceIte, List.getElem?_cons_zero, List.getElem?_cons_succ, Nat.zero_add, Nat.add_zero, Nat.reduceAdd, Nat.reduceSub, Nat.reduceLT, Nat.reduceLeDiff, Nat.reduceEqDiff, List.length_cons, List.length_nil, List.take_succ_cons, List.take_zero, List.drop_zero, List.drop_succ_cons, List.cons_append, List.nil_append, List.append_nil, DoneK, resAll, resOne, AV.under, AV.unders, and_true, true_and, and_self, or_true, true_or, cond_true, cond_false, Nat.le_refl, Nat.add_eq_left, Nat.left_eq_add, Nat.add_right_cancel_iff, Nat.add_left_cancel_iff, fillA, over, a1, *]) | (refine GuardK_split (fun hb => ?_) (fun hb => ?_)) | (refine CondK_split (fun hb => ?_) (fun hb => ?_)) | (refine CodeK_regionD _ ?_) | (refine DGuardK_split (fun hb => ?_) (fun hb => ?_))
  refine ResK_ex (refnew_spec (ho 23 (by simp)) _) fun v1 h3 hL => ?_
  obtain ⟨rfl, c1, c2, c3⟩ := hL
  simp only [Hp.n_push, Hp.n_set, b1] at c1 c2 c3
  have d1 : h3.get (h.n + 4) = some (.cells [.ptr (some (h.n + 1, 0)), .ptr (some (h.n + 3, 0))] false) := by
    rw [c3 (h.n + 4) (by omega)]
    simp only [Hp.get_set, if_true]
  have d2 : ∀ b, b < h.n + 4 → h3.get b = h2.get b := fun b hb => by
    have n1 : ¬ b = h.n + 4 := by omega
    rw [c3 b (by omega)]
    simp only [Hp.get_set, Hp.get_push, b1, n1, if_false]
  simp only [Hp.n_push, Hp.n_set, b1]
  repeat' first | (simp only [op_lenS, lenSV_str, op_lenV, lenV_slice, op_toInt, toIntV_int, op_iaddrS, RetK_inv, RetK_inv_exit, RetK_inv_ret, Nat.add_assoc, Nat.reduceEqDiff, Nat.reduceBEq, Nat.reduceBNe, Nat.le_min, Nat.le_add_right, Nat.min_self, Int.reduceBEq, Int.reduceBNe, Int.reduceLT, Int.reduceLE, Int.reduceEq, beq_self_eq_true, bne_self_eq_false, Bool.not_true, Bool.not_false, decide_true, decide_false, decide_eq_true_eq, Bool.and_eq_true, List.mapM_cons, List.mapM_nil, Option.bind_eq_bind, Option.pure_def, aeqK_agg, aeqK_scal, leavesK_nil, leavesK_cons, leafK_i, leafK_b, leafK_s, DrawK_nil, DrawK_cons, DrawK_guard, DResK_some, DGuardK_tt, DGuardK_ff, DGuardK_tf, DGuardK_ft, DGuardK_u, kept_load, Kept, KeptOne, closeOp, CO.quiet, CO.reads, CodeK_seq, CodeK_region, CodeK_skip, CodeK_ret, CodeK_exit, CodeK_cond, CodeK_block, CondK_true, CondK_false, RunK_cons, RunK_nil, RunK_guard, GuardK_tt, GuardK_ff, GuardK_tf, GuardK_ft, GuardK_u, ResK_some, RetK_nil, RetK_seq, RetK_seq_exit, RetK_seq_ret, RetK_block, RetK_block_ret, RetK_block_exit, RetK_block_exit_ne, op_mv, op_un, op_bin, op_load, loadV_ptr, op_faddr, faddrV_ptr, op_pick, pickV_true, pickV_false, pickV_bool, pickV_same, op_box, boxV_agg, op_call, op_build, op_ext, op_alloc, op_store, storeV_ptr, List.all_cons, List.all_nil, AV.one, AV.cells, Bool.and_self, Bool.and_true, Bool.true_and, put, CA.ev, List.set_cons_zero, List.set_cons_succ, List.getD_cons_zero, List.getD_cons_succ, abin, aint, aun, isShift, Option.map_some, Option.bind_some, List.map_cons, List.map_nil, Hp.n_withLow, Hp.n_push, Hp.n_set, Hp.low_withLow, Hp.low_push, Hp.low_set, Hp.get_push, Hp.get_set, Hp.get_withLow, readVar, readCell, readCells, writeCells, over, cut, fillA, Bool.false_eq_true, if_false, if_true, reduceIte, List.getElem?_cons_zero, List.getElem?_cons_succ, Nat.zero_add, Nat.add_zero, Nat.reduceAdd, Nat.reduceSub, Nat.reduceLT, Nat.reduceLeDiff, Nat.reduceEqDiff, List.length_cons, List.length_nil, List.take_succ_cons, List.take_zero, List.drop_zero, List.drop_succ_cons, List.cons_append, List.nil_append, List.append_nil, DoneK, resAll, resOne, AV.under, AV.unders, and_true, true_and, and_self, or_true, true_or, cond_true, cond_false, Nat.le_refl, Nat.add_eq_left, Nat.left_eq_add, Nat.add_right_cancel_iff, Nat.add_left_cancel_iff, *]) | (refine GuardK_split (fun hb => ?_) (fun hb => ?_)) | (refine CondK_split (fun hb => ?_) (fun hb => ?_)) | (refine CodeK_regionD _ ?_) | (refine DGuardK_split (fun hb => ?_) (fun hb => ?_))
  refine ResK_ex (refnew_spec (ho 23 (by simp)) _) fun v1 h4 hL => ?_
  obtain ⟨rfl, e1, e2, e3⟩ := hL
  simp only [c1] at e1 e2 e3
  repeat' first | (simp only [op_lenS, lenSV_str, op_lenV, lenV_slice, op_toInt, toIntV_int, op_iaddrS, RetK_inv, RetK_inv_exit, RetK_inv_ret, Nat.add_assoc, Nat.reduceEqDiff, Nat.reduceBEq, Nat.reduceBNe, Nat.le_min, Nat.le_add_right, Nat.min_self, Int.reduceBEq, Int.reduceBNe, Int.reduceLT, Int.reduceLE, Int.reduceEq, beq_self_eq_true, bne_self_eq_false, Bool.not_true, Bool.not_false, decide_true, decide_false, decide_eq_true_eq, Bool.and_eq_true, List.mapM_cons, List.mapM_nil, Option.bind_eq_bind, Option.pure_def, aeqK_agg, aeqK_scal, leavesK_nil, leavesK_cons, leafK_i, leafK_b, leafK_s, DrawK_nil, DrawK_cons, DrawK_guard, DResK_some, DGuardK_tt, DGuardK_ff, DGuardK_tf, DGuardK_ft, DGuardK_u, kept_load, Kept, KeptOne, closeOp, CO.quiet, CO.reads, CodeK_seq, CodeK_region, CodeK_skip, CodeK_ret, CodeK_exit, CodeK_cond, CodeK_block, CondK_true, CondK_false, RunK_cons, RunK_nil, RunK_guard, GuardK_tt, GuardK_ff, GuardK_tf, GuardK_ft, GuardK_u, ResK_some, RetK_nil, RetK_seq, RetK_seq_exit, RetK_seq_ret, RetK_block, RetK_block_ret, RetK_block_exit, RetK_block_exit_ne, op_mv, op_un, op_bin, op_load, loadV_ptr, op_faddr, faddrV_ptr, op_pick, pickV_true, pickV_false, pickV_bool, pickV_same, op_box, boxV_agg, op_call, op_build, op_ext, op_alloc, op_store, storeV_ptr, List.all_cons, List.all_nil, AV.one, AV.cells, Bool.and_self, Bool.and_true, Bool.true_and, put, CA.ev, List.set_cons_zero, List.set_cons_succ, List.getD_cons_zero, List.getD_cons_succ, abin, aint, aun, isShift, Option.map_some, Option.bind_some, List.map_cons, List.map_nil, Hp.n_withLow, Hp.n_push, Hp.n_set, Hp.low_withLow, Hp.low_push, Hp.low_set, Hp.get_push, Hp.get_set, Hp.get_withLow, readVar, readCell, readCells, writeCells, over, cut, fillA, Bool.false_eq_true, if_false, if_true, reduceIte, List.getElem?_cons_zero, List.getElem?_cons_succ, Nat.zero_add, Nat.add_zero, Nat.reduceAdd, Nat.reduceSub, Nat.reduceLT, Nat.reduceLeDiff, Nat.reduceEqDiff, List.length_cons, List.length_nil, List.take_succ_cons, List.take_zero, List.drop_zero, List.drop_succ_cons, List.cons_append, List.nil_append, List.append_nil, DoneK, resAll, resOne, AV.under, AV.unders, and_true, true_and, and_self, or_true, true_or, cond_true, cond_false, Nat.le_refl, Nat.add_eq_left, Nat.left_eq_add, Nat.add_right_cancel_iff, Nat.add_left_cancel_iff, fillA, over, c1, e1, *]) | (refine GuardK_split (fun hb => ?_) (fun hb => ?_)) | (refine CondK_split (fun hb => ?_) (fun hb => ?_)) | (refine CodeK_regionD _ ?_) | (refine DGuardK_split (fun hb => ?_) (fun hb => ?_))
  let A := h.n + 4
  let B := h.n + 7
  let r : Bool → Nat := fun k => if k then h.n + 3 else h.n + 1
  let mm : Bool → Nat := fun k => if k then h.n + 2 else h.n
  let s : Bool → Nat := fun k => if k then h.n + 6 else h.n + 5
  obtain ⟨L, row, cells, hL1, hL2⟩ : ∃ (L : Nat) (row : Option Blk) (cells : List AV), (row.isSome = true → L < h.n ∧ h.get L = row) ∧ ∀ (i : Nat) (x : Note), ns[i]? = some x → a = some (L, 0) ∧ (∃ ro, row = some (.cells cells ro)) ∧ cells[i * 3]? = some (.int .i64 x.kind) ∧ cells[i * 3 + 1]? = some (.int .i64 x.on) ∧ cells[i * 3 + 2]? = some (.str x.form) := by
    rcases hrow with rfl | ⟨b, cells, ro, h1, h2, h3, h4⟩
    · exact ⟨0, none, [], fun h => by simp at h, fun i x h => by simp at h⟩
    · exact ⟨b, some (.cells cells ro), cells, fun _ => ⟨h2, h3⟩, fun i x h => ⟨h1, ⟨ro, rfl⟩, h4 i x h⟩⟩
  refine CodeK_heap (fun H => H.n = h.n + 8 ∧ H.get (h.n + 7) = some (.cells [.ptr (some (h.n + 5, 0)), .ptr (some (h.n + 6, 0))] false) ∧ ∀ b, b < h.n + 7 → H.get b = h4.get b) ?_ fun H hH => ?_
  · refine ⟨by simp [e1], by simp only [Hp.get_set, if_true], fun b hb => ?_⟩
    have n1 : ¬ b = h.n + 7 := by omega
    simp only [Hp.get_set, Hp.get_push, e1, n1, if_false]
  obtain ⟨H1, H2, H3⟩ := hH
  refine CodeK_loop (InvL (.slice a m c) ns A B L row r mm s) m ?_ ?_
  · have z3 : ∀ b, b < h.n + 6 → H.get b = h3.get b := fun b hb => by rw [H3 b (by omega), e3 b hb]
    have z2 : ∀ b, b < h.n + 4 → H.get b = h2.get b := fun b hb => by rw [z3 b (by omega), d2 b hb]
    have z1 : ∀ b, b < h.n + 2 → H.get b = h1.get b := fun b hb => by rw [z2 b (by omega), b4 b hb]
    have z0 : ∀ b, b < h.n → H.get b = h.get b := fun b hb => by rw [z1 b (by omega), a4 b hb]
    refine ⟨rfl, rfl, rfl, rfl, 0, fun b => if b < h.n then 102 else if b = h.n then 2 else if b = h.n + 1 then 1 else if b = h.n + 2 then 12 else if b = h.n + 3 then 11 else if b = h.n + 4 then 100 else if b = h.n + 5 then 3 else if b = h.n + 6 then 13 else 101, fun _ => [], by omega, by omega, rfl, ⟨?_, ?_, ?_, ?_, ?_, ?_, fun hr => ?_, fun k => ?_, fun k => ?_⟩, fun _ => ⟨by simp, by simp⟩⟩
    · exact (z3 (h.n + 4) (by omega)).trans d1
    · exact H2
    · show h.n + 4 < H.n; omega
    · show h.n + 7 < H.n; omega
    · simp [A]
    · simp [B]
    · obtain ⟨y1, y2⟩ := hL1 hr
      exact ⟨by omega, by simp [y1], by rw [z0 L y1, y2]⟩
    · cases k with
      | false =>
        refine ⟨(z1 (h.n + 1) (by omega)).trans a3, (z1 h.n (by omega)).trans a2, ?_, ?_, by simp [r], by simp [mm]⟩
        · show h.n + 1 < H.n; omega
        · show h.n < H.n; omega
      | true =>
        refine ⟨(z2 (h.n + 3) (by omega)).trans b3, (z2 (h.n + 2) (by omega)).trans b2, ?_, ?_, by simp [r], by simp [mm]⟩
        · show h.n + 3 < H.n; omega
        · show h.n + 2 < H.n; omega
    · cases k with
      | false =>
        refine ⟨_, _, (z3 (h.n + 5) (by omega)).trans c2, ?_, by simp [s], .inl ⟨rfl, rfl⟩, .inl ⟨rfl, rfl⟩⟩
        show h.n + 5 < H.n; omega
      | true =>
        refine ⟨_, _, (H3 (h.n + 6) (by omega)).trans e2, ?_, by simp [s], .inl ⟨rfl, rfl⟩, .inl ⟨rfl, rfl⟩⟩
        show h.n + 6 < H.n; omega
  · intro n tm h' I
    obtain ⟨i, own, E, hn, hi, e5, w, hE⟩ := I.st
    have el := I.len
    have e0 := I.t0
    have e3' := I.t3
    have e4' := I.t4
    by_cases hlt : i < m
    case neg =>
      have l1 : decide ((i : Int) < (m : Int)) = false := by simp; omega
      repeat' first | (simp only [op_lenS, lenSV_str, op_lenV, lenV_slice, op_toInt, toIntV_int, op_iaddrS, RetK_inv, RetK_inv_exit, RetK_inv_ret, Nat.add_assoc, Nat.reduceEqDiff, Nat.reduceBEq, Nat.reduceBNe, Nat.le_min, Nat.le_add_right, Nat.min_self, Int.reduceBEq, Int.reduceBNe, Int.reduceLT, Int.reduceLE, Int.reduceEq, beq_self_eq_true, bne_self_eq_false, Bool.not_true, Bool.not_false, decide_true, decide_false, decide_eq_true_eq, Bool.and_eq_true, List.mapM_cons, List.mapM_nil, Option.bind_eq_bind, Option.pure_def, aeqK_agg, aeqK_scal, leavesK_nil, leavesK_cons, leafK_i, leafK_b, leafK_s, DrawK_nil, DrawK_cons, DrawK_guard, DResK_some, DGuardK_tt, DGuardK_ff, DGuardK_tf, DGuardK_ft, DGuardK_u, kept_load, Kept, KeptOne, closeOp, CO.quiet, CO.reads, CodeK_seq, CodeK_region, CodeK_skip, CodeK_ret, CodeK_exit, CodeK_cond, CodeK_block, CondK_true, CondK_false, RunK_cons, RunK_nil, RunK_guard, GuardK_tt, GuardK_ff, GuardK_tf, GuardK_ft, GuardK_u, ResK_some, RetK_nil, RetK_seq, RetK_seq_exit, RetK_seq_ret, RetK_block, RetK_block_ret, RetK_block_exit, RetK_block_exit_ne, op_mv, op_un, op_bin, op_load, loadV_ptr, op_faddr, faddrV_ptr, op_pick, pickV_true, pickV_false, pickV_bool, pickV_same, op_box, boxV_agg, op_call, op_build, op_ext, op_alloc, op_store, storeV_ptr, List.all_cons, List.all_nil, AV.one, AV.cells, Bool.and_self, Bool.and_true, Bool.true_and, put, CA.ev, List.set_cons_zero, List.set_cons_succ, List.getD_cons_zero, List.getD_cons_succ, abin, aint, aun, isShift, Option.map_some, Option.bind_some, List.map_cons, List.map_nil, Hp.n_withLow, Hp.n_push, Hp.n_set, Hp.low_withLow, Hp.low_push, Hp.low_set, Hp.get_push, Hp.get_set, Hp.get_withLow, readVar, readCell, readCells, writeCells, over, cut, fillA, Bool.false_eq_true, if_false, if_true, reduceIte, List.getElem?_cons_zero, List.getElem?_cons_succ, Nat.zero_add, Nat.add_zero, Nat.reduceAdd, Nat.reduceSub, Nat.reduceLT, Nat.reduceLeDiff, Nat.reduceEqDiff, List.length_cons, List.length_nil, List.take_succ_cons, List.take_zero, List.drop_zero, List.drop_succ_cons, List.cons_append, List.nil_append, List.append_nil, DoneK, resAll, resOne, AV.under, AV.unders, and_true, true_and, and_self, or_true, true_or, cond_true, cond_false, Nat.le_refl, Nat.add_eq_left, Nat.left_eq_add, Nat.add_right_cancel_iff, Nat.add_left_cancel_iff, el, e0, e5, l1, Option.some.injEq, tmset_self, tmset_ne, List.length_set, Nat.reduceBEq, Nat.reduceLT, *]) | (refine GuardK_split (fun hb => ?_) (fun hb => ?_)) | (refine CondK_split (fun hb => ?_) (fun hb => ?_)) | (refine CodeK_regionD _ ?_) | (refine DGuardK_split (fun hb => ?_) (fun hb => ?_))
      exact ⟨_, rfl, rfl⟩
    case pos =>
      have l1 : decide ((i : Int) < (m : Int)) = true := by simp; omega
      have hx := List.getElem?_eq_getElem (l := ns) (i := i) (by omega)
      generalize ns[i]'(by omega) = x at hx
      obtain ⟨rfl, ⟨ro, rfl⟩, k1, k2, k3⟩ := hL2 i x hx
      have g0 := (w.hL rfl).2.2
      have g1 := w.hA
      have g2 := w.hB
      obtain ⟨k, hk⟩ := bits_and1 x.on
      have hk2 : k.toNat < 2 := by cases k <;> decide
      have hAk : ([.ptr (some (r false, 0)), .ptr (some (r true, 0))] : List AV)[k.toNat]? = some (.ptr (some (r k, 0))) := by cases k <;> rfl
      have hBk : ([.ptr (some (s false, 0)), .ptr (some (s true, 0))] : List AV)[k.toNat]? = some (.ptr (some (s k, 0))) := by cases k <;> rfl
      have w1 : IntKind.wrap .i64 ((i : Int) + 1) = ((i + 1 : Nat) : Int) := by
        rw [wrap_i64 (by omega) (by omega)]
        omega
      have hl1 := (hE k).1
      have hl2 := (hE k).2
      obtain ⟨vF, vO, hmf⟩ := w.ref k
      have hEE := addE_ok (f := x.form) hl1 hl2
      clear_value A B r mm s
      cases hz : (x.kind == 0) with
      | false =>
        have s1 := realseen_spec (orc := orc) (ho 26 (by simp)) (w.real k) x.form
        have s2 := refseen_spec (orc := orc) (ho 27 (by simp)) (ho 66 (by simp)) hmf (by omega) x.form
        repeat' first | (simp only [op_lenS, lenSV_str, op_lenV, lenV_slice, op_toInt, toIntV_int, op_iaddrS, RetK_inv, RetK_inv_exit, RetK_inv_ret, Nat.add_assoc, Nat.reduceEqDiff, Nat.reduceBEq, Nat.reduceBNe, Nat.le_min, Nat.le_add_right, Nat.min_self, Int.reduceBEq, Int.reduceBNe, Int.reduceLT, Int.reduceLE, Int.reduceEq, beq_self_eq_true, bne_self_eq_false, Bool.not_true, Bool.not_false, decide_true, decide_false, decide_eq_true_eq, Bool.and_eq_true, List.mapM_cons, List.mapM_nil, Option.bind_eq_bind, Option.pure_def, aeqK_agg, aeqK_scal, leavesK_nil, leavesK_cons, leafK_i, leafK_b, leafK_s, DrawK_nil, DrawK_cons, DrawK_guard, DResK_some, DGuardK_tt, DGuardK_ff, DGuardK_tf, DGuardK_ft, DGuardK_u, kept_load, Kept, KeptOne, closeOp, CO.quiet, CO.reads, CodeK_seq, CodeK_region, CodeK_skip, CodeK_ret, CodeK_exit, CodeK_cond, CodeK_block, CondK_true, CondK_false, RunK_cons, RunK_nil, RunK_guard, GuardK_tt, GuardK_ff, GuardK_tf, GuardK_ft, GuardK_u, ResK_some, RetK_nil, RetK_seq, RetK_seq_exit, RetK_seq_ret, RetK_block, RetK_block_ret, RetK_block_exit, RetK_block_exit_ne, op_mv, op_un, op_bin, op_load, loadV_ptr, op_faddr, faddrV_ptr, op_pick, pickV_true, pickV_false, pickV_bool, pickV_same, op_box, boxV_agg, op_call, op_build, op_ext, op_alloc, op_store, storeV_ptr, List.all_cons, List.all_nil, AV.one, AV.cells, Bool.and_self, Bool.and_true, Bool.true_and, put, CA.ev, List.set_cons_zero, List.set_cons_succ, List.getD_cons_zero, List.getD_cons_succ, abin, aint, aun, isShift, Option.map_some, Option.bind_some, List.map_cons, List.map_nil, Hp.n_withLow, Hp.n_push, Hp.n_set, Hp.low_withLow, Hp.low_push, Hp.low_set, Hp.get_push, Hp.get_set, Hp.get_withLow, readVar, readCell, readCells, writeCells, over, cut, fillA, Bool.false_eq_true, if_false, if_true, reduceIte, List.getElem?_cons_zero, List.getElem?_cons_succ, Nat.zero_add, Nat.add_zero, Nat.reduceAdd, Nat.reduceSub, Nat.reduceLT, Nat.reduceLeDiff, Nat.reduceEqDiff, List.length_cons, List.length_nil, List.take_succ_cons, List.take_zero, List.drop_zero, List.drop_succ_cons, List.cons_append, List.nil_append, List.append_nil, DoneK, resAll, resOne, AV.under, AV.unders, and_true, true_and, and_self, or_true, true_or, cond_true, cond_false, Nat.le_refl, Nat.add_eq_left, Nat.left_eq_add, Nat.add_right_cancel_iff, Nat.add_left_cancel_iff, el, e0, e3', e4', e5, l1, g0, g1, g2, k1, k2, k3, hk, hz, hAk, hBk, w1, s1, s2, iaddrV_nat hlt, op_iaddrA, iaddrAV_nat hk2, Nat.mul_one, tmset_self, tmset_ne, List.length_set, Nat.reduceBEq, Nat.reduceLT, *]) | (refine GuardK_split (fun hb => ?_) (fun hb => ?_)) | (refine CondK_split (fun hb => ?_) (fun hb => ?_)) | (refine CodeK_regionD _ ?_) | (refine DGuardK_split (fun hb => ?_) (fun hb => ?_))
        exact ⟨m - (i + 1), by omega, ⟨by simp only [List.length_set, el], by simp only [tmset_self, tmset_ne, List.length_set, Nat.reduceBEq, Nat.reduceLT, el, e0], by simp only [tmset_self, tmset_ne, List.length_set, Nat.reduceBEq, Nat.reduceLT, el, e3'], by simp only [tmset_self, tmset_ne, List.length_set, Nat.reduceBEq, Nat.reduceLT, el, e4'], i + 1, own, E, by omega, by omega, by simp only [tmset_self, tmset_ne, List.length_set, Nat.reduceBEq, Nat.reduceLT, el], w, fun j => ⟨by have := (hE j).1; omega, fun e he => by have := (hE j).2 e he; omega⟩⟩⟩
      | true =>
        repeat' first | (simp only [op_lenS, lenSV_str, op_lenV, lenV_slice, op_toInt, toIntV_int, op_iaddrS, RetK_inv, RetK_inv_exit, RetK_inv_ret, Nat.add_assoc, Nat.reduceEqDiff, Nat.reduceBEq, Nat.reduceBNe, Nat.le_min, Nat.le_add_right, Nat.min_self, Int.reduceBEq, Int.reduceBNe, Int.reduceLT, Int.reduceLE, Int.reduceEq, beq_self_eq_true, bne_self_eq_false, Bool.not_true, Bool.not_false, decide_true, decide_false, decide_eq_true_eq, Bool.and_eq_true, List.mapM_cons, List.mapM_nil, Option.bind_eq_bind, Option.pure_def, aeqK_agg, aeqK_scal, leavesK_nil, leavesK_cons, leafK_i, leafK_b, leafK_s, DrawK_nil, DrawK_cons, DrawK_guard, DResK_some, DGuardK_tt, DGuardK_ff, DGuardK_tf, DGuardK_ft, DGuardK_u, kept_load, Kept, KeptOne, closeOp, CO.quiet, CO.reads, CodeK_seq, CodeK_region, CodeK_skip, CodeK_ret, CodeK_exit, CodeK_cond, CodeK_block, CondK_true, CondK_false, RunK_cons, RunK_nil, RunK_guard, GuardK_tt, GuardK_ff, GuardK_tf, GuardK_ft, GuardK_u, ResK_some, RetK_nil, RetK_seq, RetK_seq_exit, RetK_seq_ret, RetK_block, RetK_block_ret, RetK_block_exit, RetK_block_exit_ne, op_mv, op_un, op_bin, op_load, loadV_ptr, op_faddr, faddrV_ptr, op_pick, pickV_true, pickV_false, pickV_bool, pickV_same, op_box, boxV_agg, op_call, op_build, op_ext, op_alloc, op_store, storeV_ptr, List.all_cons, List.all_nil, AV.one, AV.cells, Bool.and_self, Bool.and_true, Bool.true_and, put, CA.ev, List.set_cons_zero, List.set_cons_succ, List.getD_cons_zero, List.getD_cons_succ, abin, aint, aun, isShift, Option.map_some, Option.bind_some, List.map_cons, List.map_nil, Hp.n_withLow, Hp.n_push, Hp.n_set, Hp.low_withLow, Hp.low_push, Hp.low_set, Hp.get_push, Hp.get_set, Hp.get_withLow, readVar, readCell, readCells, writeCells, over, cut, fillA, Bool.false_eq_true, if_false, if_true, reduceIte, List.getElem?_cons_zero, List.getElem?_cons_succ, Nat.zero_add, Nat.add_zero, Nat.reduceAdd, Nat.reduceSub, Nat.reduceLT, Nat.reduceLeDiff, Nat.reduceEqDiff, List.length_cons, List.length_nil, List.take_succ_cons, List.take_zero, List.drop_zero, List.drop_succ_cons, List.cons_append, List.nil_append, List.append_nil, DoneK, resAll, resOne, AV.under, AV.unders, and_true, true_and, and_self, or_true, true_or, cond_true, cond_false, Nat.le_refl, Nat.add_eq_left, Nat.left_eq_add, Nat.add_right_cancel_iff, Nat.add_left_cancel_iff, el, e0, e3', e4', e5, l1, g0, g1, g2, k1, k2, k3, hk, hz, hAk, hBk, w1, iaddrV_nat hlt, op_iaddrA, iaddrAV_nat hk2, Nat.mul_one, tmset_self, tmset_ne, List.length_set, Nat.reduceBEq, Nat.reduceLT, *]) | (refine GuardK_split (fun hb => ?_) (fun hb => ?_)) | (refine CondK_split (fun hb => ?_) (fun hb => ?_)) | (refine CodeK_regionD _ ?_) | (refine DGuardK_split (fun hb => ?_) (fun hb => ?_))
        refine DResK_ex (realadd_spec (ho 24 (by simp)) (w.real k) (by omega) (fun e he => by have := hl2 e he; omega) x.form) fun v1 H1 hL => ?_
        obtain ⟨rfl, p1, p2, p3⟩ := hL
        have w1' := w.real_add k p1 p2 p3
        obtain ⟨x1, y1, hxy⟩ := addA_ints x.form (E k)
        obtain ⟨vF1, vO1, hmf1⟩ := w1'.ref k
        have g3 := (w1'.hL rfl).2.2
        have g4 := w1'.hA
        have g5 := w1'.hB
        rw [hxy]
        repeat' first | (simp only [op_lenS, lenSV_str, op_lenV, lenV_slice, op_toInt, toIntV_int, op_iaddrS, RetK_inv, RetK_inv_exit, RetK_inv_ret, Nat.add_assoc, Nat.reduceEqDiff, Nat.reduceBEq, Nat.reduceBNe, Nat.le_min, Nat.le_add_right, Nat.min_self, Int.reduceBEq, Int.reduceBNe, Int.reduceLT, Int.reduceLE, Int.reduceEq, beq_self_eq_true, bne_self_eq_false, Bool.not_true, Bool.not_false, decide_true, decide_false, decide_eq_true_eq, Bool.and_eq_true, List.mapM_cons, List.mapM_nil, Option.bind_eq_bind, Option.pure_def, aeqK_agg, aeqK_scal, leavesK_nil, leavesK_cons, leafK_i, leafK_b, leafK_s, DrawK_nil, DrawK_cons, DrawK_guard, DResK_some, DGuardK_tt, DGuardK_ff, DGuardK_tf, DGuardK_ft, DGuardK_u, kept_load, Kept, KeptOne, closeOp, CO.quiet, CO.reads, CodeK_seq, CodeK_region, CodeK_skip, CodeK_ret, CodeK_exit, CodeK_cond, CodeK_block, CondK_true, CondK_false, RunK_cons, RunK_nil, RunK_guard, GuardK_tt, GuardK_ff, GuardK_tf, GuardK_ft, GuardK_u, ResK_some, RetK_nil, RetK_seq, RetK_seq_exit, RetK_seq_ret, RetK_block, RetK_block_ret, RetK_block_exit, RetK_block_exit_ne, op_mv, op_un, op_bin, op_load, loadV_ptr, op_faddr, faddrV_ptr, op_pick, pickV_true, pickV_false, pickV_bool, pickV_same, op_box, boxV_agg, op_call, op_build, op_ext, op_alloc, op_store, storeV_ptr, List.all_cons, List.all_nil, AV.one, AV.cells, Bool.and_self, Bool.and_true, Bool.true_and, put, CA.ev, List.set_cons_zero, List.set_cons_succ, List.getD_cons_zero, List.getD_cons_succ, abin, aint, aun, isShift, Option.map_some, Option.bind_some, List.map_cons, List.map_nil, Hp.n_withLow, Hp.n_push, Hp.n_set, Hp.low_withLow, Hp.low_push, Hp.low_set, Hp.get_push, Hp.get_set, Hp.get_withLow, readVar, readCell, readCells, writeCells, over, cut, fillA, Bool.false_eq_true, if_false, if_true, reduceIte, List.getElem?_cons_zero, List.getElem?_cons_succ, Nat.zero_add, Nat.add_zero, Nat.reduceAdd, Nat.reduceSub, Nat.reduceLT, Nat.reduceLeDiff, Nat.reduceEqDiff, List.length_cons, List.length_nil, List.take_succ_cons, List.take_zero, List.drop_zero, List.drop_succ_cons, List.cons_append, List.nil_append, List.append_nil, DoneK, resAll, resOne, AV.under, AV.unders, and_true, true_and, and_self, or_true, true_or, cond_true, cond_false, Nat.le_refl, Nat.add_eq_left, Nat.left_eq_add, Nat.add_right_cancel_iff, Nat.add_left_cancel_iff, el, e0, e3', e4', e5, l1, g0, g1, g2, g3, g4, g5, k1, k2, k3, hk, hz, hAk, hBk, w1, iaddrV_nat hlt, op_iaddrA, iaddrAV_nat hk2, Nat.mul_one, tmset_self, tmset_ne, List.length_set, Nat.reduceBEq, Nat.reduceLT, *]) | (refine GuardK_split (fun hb => ?_) (fun hb => ?_)) | (refine CondK_split (fun hb => ?_) (fun hb => ?_)) | (refine CodeK_regionD _ ?_) | (refine DGuardK_split (fun hb => ?_) (fun hb => ?_))
        refine DResK_ex (refadd_spec (ho 25 (by simp)) (ho 66 (by simp)) hmf1 (by omega) (fun e he => by have := hl2 e he; omega) x.form) fun v2 H2 hL => ?_
        obtain ⟨own', w2⟩ := w1'.ref_add k hL
        have hv2 := hL.1
        subst hv2
        rw [hxy]
        repeat' first | (simp only [op_lenS, lenSV_str, op_lenV, lenV_slice, op_toInt, toIntV_int, op_iaddrS, RetK_inv, RetK_inv_exit, RetK_inv_ret, Nat.add_assoc, Nat.reduceEqDiff, Nat.reduceBEq, Nat.reduceBNe, Nat.le_min, Nat.le_add_right, Nat.min_self, Int.reduceBEq, Int.reduceBNe, Int.reduceLT, Int.reduceLE, Int.reduceEq, beq_self_eq_true, bne_self_eq_false, Bool.not_true, Bool.not_false, decide_true, decide_false, decide_eq_true_eq, Bool.and_eq_true, List.mapM_cons, List.mapM_nil, Option.bind_eq_bind, Option.pure_def, aeqK_agg, aeqK_scal, leavesK_nil, leavesK_cons, leafK_i, leafK_b, leafK_s, DrawK_nil, DrawK_cons, DrawK_guard, DResK_some, DGuardK_tt, DGuardK_ff, DGuardK_tf, DGuardK_ft, DGuardK_u, kept_load, Kept, KeptOne, closeOp, CO.quiet, CO.reads, CodeK_seq, CodeK_region, CodeK_skip, CodeK_ret, CodeK_exit, CodeK_cond, CodeK_block, CondK_true, CondK_false, RunK_cons, RunK_nil, RunK_guard, GuardK_tt, GuardK_ff, GuardK_tf, GuardK_ft, GuardK_u, ResK_some, RetK_nil, RetK_seq, RetK_seq_exit, RetK_seq_ret, RetK_block, RetK_block_ret, RetK_block_exit, RetK_block_exit_ne, op_mv, op_un, op_bin, op_load, loadV_ptr, op_faddr, faddrV_ptr, op_pick, pickV_true, pickV_false, pickV_bool, pickV_same, op_box, boxV_agg, op_call, op_build, op_ext, op_alloc, op_store, storeV_ptr, List.all_cons, List.all_nil, AV.one, AV.cells, Bool.and_self, Bool.and_true, Bool.true_and, put, CA.ev, List.set_cons_zero, List.set_cons_succ, List.getD_cons_zero, List.getD_cons_succ, abin, aint, aun, isShift, Option.map_some, Option.bind_some, List.map_cons, List.map_nil, Hp.n_withLow, Hp.n_push, Hp.n_set, Hp.low_withLow, Hp.low_push, Hp.low_set, Hp.get_push, Hp.get_set, Hp.get_withLow, readVar, readCell, readCells, writeCells, over, cut, fillA, Bool.false_eq_true, if_false, if_true, reduceIte, List.getElem?_cons_zero, List.getElem?_cons_succ, Nat.zero_add, Nat.add_zero, Nat.reduceAdd, Nat.reduceSub, Nat.reduceLT, Nat.reduceLeDiff, Nat.reduceEqDiff, List.length_cons, List.length_nil, List.take_succ_cons, List.take_zero, List.drop_zero, List.drop_succ_cons, List.cons_append, List.nil_append, List.append_nil, DoneK, resAll, resOne, AV.under, AV.unders, and_true, true_and, and_self, or_true, true_or, cond_true, cond_false, Nat.le_refl, Nat.add_eq_left, Nat.left_eq_add, Nat.add_right_cancel_iff, Nat.add_left_cancel_iff, el, e0, e3', e4', e5, l1, g0, g1, g2, g3, g4, g5, k1, k2, k3, hk, hz, hAk, hBk, w1, iaddrV_nat hlt, op_iaddrA, iaddrAV_nat hk2, Nat.mul_one, tmset_self, tmset_ne, List.length_set, Nat.reduceBEq, Nat.reduceLT, *]) | (refine GuardK_split (fun hb => ?_) (fun hb => ?_)) | (refine CondK_split (fun hb => ?_) (fun hb => ?_)) | (refine CodeK_regionD _ ?_) | (refine DGuardK_split (fun hb => ?_) (fun hb => ?_))
        refine ⟨m - (i + 1), by omega, ⟨by simp only [List.length_set, el], by simp only [tmset_self, tmset_ne, List.length_set, Nat.reduceBEq, Nat.reduceLT, el, e0], by simp only [tmset_self, tmset_ne, List.length_set, Nat.reduceBEq, Nat.reduceLT, el, e3'], by simp only [tmset_self, tmset_ne, List.length_set, Nat.reduceBEq, Nat.reduceLT, el, e4'], i + 1, own', upd E k (addE x.form (E k)), by omega, by omega, by simp only [tmset_self, tmset_ne, List.length_set, Nat.reduceBEq, Nat.reduceLT, el], w2, fun j => ?_⟩⟩
        by_cases hj : j = k
        · subst hj
          simp only [upd, if_true]
          exact hEE
        · simp only [upd, if_neg hj]
          exact ⟨by have := (hE j).1; omega, fun e he => by have := (hE j).2 e he; omega⟩
end Go.Proofs.Js
