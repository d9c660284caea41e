/- ApartInts, over rows whose room is known: each is written over, none is met twice. -/
import Derived.Test.YtnhkllnggpncfaaPsCf
import Derived.Test.YtnhkllnggpncfaaPoCat
import Derived.Test.YtnhkllnggpncfaaFsApart
namespace Go.Proofs.Po
open Go Go.Fs
set_option linter.unusedSimpArgs false
set_option linter.unusedVariables false
variable {orc : Orc}

def mkI (i k : Int) : Int := IntKind.wrap .i64 (IntKind.wrap .i64 (IntKind.wrap .i64 (-1000003 * i) - k) - 5)

set_option maxRecDepth 100000 in
theorem mark_spec (ho : orc 65 = none) (i k : Int) (h : AH) : acall orc T 65 [.int .i64 i, .int .i64 k] h = some (.int .i64 (mkI i k), h) := by
  refine acall_sym ho tbl65 ?_
  unfold mkI
  dsimp only [List.length, List.replicate, List.append, List.cons_append, List.nil_append, Nat.reduceAdd, Nat.reduceSub]
  repeat' first | (simp only [op_lenS, lenSV_str, op_lenV, lenV_slice, op_toInt, toIntV_int, op_iaddrS, RetK_inv, RetK_inv_exit, RetK_inv_ret, Nat.add_assoc, Nat.reduceEqDiff, Nat.reduceBEq, Nat.reduceBNe, Nat.le_min, Nat.le_add_right, Nat.min_self, Int.reduceBEq, Int.reduceBNe, Int.reduceLT, Int.reduceLE, Int.reduceEq, beq_self_eq_true, bne_self_eq_false, Bool.not_true, Bool.not_false, decide_true, decide_false, decide_eq_true_eq, Bool.and_eq_true, List.mapM_cons, List.mapM_nil, Option.bind_eq_bind, Option.pure_def, aeqK_agg, aeqK_scal, leavesK_nil, leavesK_cons, leafK_i, leafK_b, leafK_s, DrawK_nil, DrawK_cons, DrawK_guard, DResK_some, DGuardK_tt, DGuardK_ff, DGuardK_tf, DGuardK_ft, DGuardK_u, kept_load, Kept, KeptOne, closeOp, CO.quiet, CO.reads, CodeK_seq, CodeK_region, CodeK_skip, CodeK_ret, CodeK_exit, CodeK_cond, CodeK_block, CondK_true, CondK_false, RunK_cons, RunK_nil, RunK_guard, GuardK_tt, GuardK_ff, GuardK_tf, GuardK_ft, GuardK_u, ResK_some, RetK_nil, RetK_seq, RetK_seq_exit, RetK_seq_ret, RetK_block, RetK_block_ret, RetK_block_exit, RetK_block_exit_ne, op_mv, op_un, op_bin, op_load, loadV_ptr, op_faddr, faddrV_ptr, op_pick, pickV_true, pickV_false, pickV_bool, pickV_same, op_box, boxV_agg, op_call, op_build, op_ext, op_alloc, op_store, storeV_ptr, List.all_cons, List.all_nil, AV.one, AV.cells, Bool.and_self, Bool.and_true, Bool.true_and, put, CA.ev, List.set_cons_zero, List.set_cons_succ, List.getD_cons_zero, List.getD_cons_succ, abin, aint, aun, isShift, Option.map_some, Option.bind_some, List.map_cons, List.map_nil, Hp.n_withLow, Hp.n_push, Hp.n_set, Hp.low_withLow, Hp.low_push, Hp.low_set, Hp.get_push, Hp.get_set, Hp.get_withLow, readVar, readCell, readCells, writeCells, cut, fillA, Bool.false_eq_true, if_false, if_true, reduceIte, List.getElem?_cons_zero, List.getElem?_cons_succ, Nat.zero_add, Nat.add_zero, Nat.reduceAdd, Nat.reduceSub, Nat.reduceLT, Nat.reduceLeDiff, Nat.reduceEqDiff, List.length_cons, List.length_nil, List.take_succ_cons, List.take_zero, List.drop_zero, List.drop_succ_cons, List.cons_append, List.nil_append, List.append_nil, DoneK, resAll, resOne, AV.under, AV.unders, and_true, true_and, and_self, or_true, true_or, cond_true, cond_false, Nat.le_refl, Nat.add_eq_left, Nat.left_eq_add, Nat.add_right_cancel_iff, Nat.add_left_cancel_iff, *]) | (refine GuardK_split (fun hb => ?_) (fun hb => ?_)) | (refine CondK_split (fun hb => ?_) (fun hb => ?_)) | (refine CodeK_regionD _ ?_) | (refine DGuardK_split (fun hb => ?_) (fun hb => ?_))

def fullV : AV → AV
  | .slice a _ (.exact c) => .slice a c (.exact c)
  | v => v

theorem slc_cap {h : AH} {ob : Option Nat} {x : AV} (hx : OpenRow 1 h ob x) : ∃ (c : Nat) (a : Option (Nat × Nat)), fullV x = .slice a c (.exact c) ∧ (∀ hy, capV x hy = some (.int .i64 (c : Int), hy)) ∧
    ∀ (tm : List AV) (y : CA) (hy : AH), y.ev tm = .int .i64 (c : Int) → slcVV tm 1 x none (some y) none hy = some (.slice a c (.exact c), hy) := by
  rcases hx with ⟨_, rfl⟩ | ⟨b, len, c, cs, _, rfl, _, _, hl, _⟩
  · exact ⟨0, none, rfl, fun _ => rfl, fun tm y hy he => slc_nil0 tm y hy he⟩
  · refine ⟨c, some (b, 0), rfl, fun _ => rfl, fun tm y hy he => ?_⟩
    have hb : bounds3 tm len c none (some y) none = some (0, c, c) := by
      unfold bounds3
      simp only [optBound, Option.bind_some, highOf, he, bound]
      rw [if_pos ⟨by omega, by omega⟩]
      simp
    unfold slcVV
    simp only [quietRun, CA.ev, hb, Option.map_some, Nat.zero_mul, Nat.add_zero, Nat.sub_zero]
    split <;> rfl

/-- A row of the call's own, of any cells. -/
def FreshC (N : Nat) (h : AH) (v : AV) (xs : List AV) : Prop :=
  (xs = [] ∧ v = .slice none 0 (.exact 0)) ∨ (xs ≠ [] ∧ ∃ b, N ≤ b ∧ b < h.n ∧ v = .slice (some (b, 0)) xs.length (.opn 1) ∧ h.get b = some (.cells xs false))
theorem FreshC.len {N : Nat} {h : AH} {v : AV} {xs : List AV} (hf : FreshC N h v xs) (hx : AH) : lenV v hx = some (.int .i64 (xs.length : Int), hx) := by
  rcases hf with ⟨rfl, rfl⟩ | ⟨_, b, _, _, rfl, _⟩ <;> rfl
theorem FreshC.at {N : Nat} {h : AH} {v : AV} {xs : List AV} (hf : FreshC N h v xs) {i : Nat} {x : AV} (hx : xs[i]? = some x) :
    ∃ b, (∀ hy : AH, iaddrV 1 v (.int .i64 (i : Int)) hy = some (.ptr (some (b, i)), hy)) ∧ h.get b = some (.cells xs false) ∧ N ≤ b := by
  have hlt := (List.getElem?_eq_some_iff.1 hx).1
  rcases hf with ⟨rfl, rfl⟩ | ⟨_, b, h1, _, rfl, h4⟩
  · simp at hlt
  · exact ⟨b, fun hy => by rw [iaddrV_nat hlt, Nat.mul_one, Nat.zero_add], h4, h1⟩
theorem FreshC.keep {N : Nat} {h h' : AH} {v : AV} {xs : List AV} (hf : FreshC N h v xs) (hn : h.n ≤ h'.n) (hg : ∀ b, N ≤ b → b < h.n → h'.get b = h.get b) : FreshC N h' v xs := by
  rcases hf with h1 | ⟨h1, b, h2, h3, h4, h5⟩
  · exact .inl h1
  · exact .inr ⟨h1, b, h2, Nat.lt_of_lt_of_le h3 hn, h4, by rw [hg b h2 h3, h5]⟩

theorem app_c {N : Nat} {h : AH} {v : AV} {R : List AV} {x : AV} {bx : Nat} {bytes : Nat} (hf : FreshC N h v R) (hN : N ≤ h.n) (hone : x.one = true) (hl : (R.length + 1) * bytes ≤ 140737488355328) (hl2 : R.length ≤ 1000000) (hbx : h.get bx = some (.cells [x] false)) :
    ∃ v' h', appendRun 1 bytes v (.slice (some (bx, 0)) 1 (.exact 1)) h = some (v', h') ∧ (FreshC N h' v' (R ++ [x]) ∧ h.n ≤ h'.n ∧ ∀ b, b < N → h'.get b = h.get b) := by
  have e1 : lenOf (.slice (some (bx, 0)) 1 (.exact 1)) = some 1 := rfl
  have e2 : elemsOf 1 h (.slice (some (bx, 0)) 1 (.exact 1)) = some [x] := by
    simp [elemsOf, readCells, hbx, Fs.cut]
  rcases hf with ⟨rfl, rfl⟩ | ⟨hne, b, h2, h3, rfl, h5⟩
  · refine ⟨_, h.push (.cells [x] false), ?_, .inr ⟨by simp, h.n, hN, by simp, rfl, by simp⟩, by simp, fun b hb => Hp.get_push_ne _ _ _ (by omega)⟩
    unfold appendRun
    simp only [e1, e2, Option.bind_some, appendCore, elems_nil, Nat.zero_add, List.nil_append]
    rw [if_neg (by omega), if_pos ⟨by simpa using hl, by omega⟩]
    rfl
  · have hp : 0 < R.length := List.length_pos_iff.2 hne
    have eold : elemsOf 1 h (.slice (some (b, 0)) R.length (.opn 1)) = some R := by
      unfold elemsOf
      dsimp only
      rw [if_neg (by omega)]
      simp only [readCells, h5, Nat.mul_one]
      exact cut_iff.2 ⟨by omega, by rw [List.drop_zero, List.take_length]⟩
    refine ⟨_, (h.set b .dead).push (.cells (R ++ [x]) false), ?_, .inr ⟨by simp, h.n, hN, by simp, rfl, by rw [show h.n = (h.set b .dead).n from rfl]; exact Hp.get_push_self _ _⟩, by simp, fun b' hb' => ?_⟩
    · unfold appendRun
      simp only [e1, e2, Option.bind_some, appendCore, eold, if_true, h5, Nat.zero_add, Nat.mul_one, List.all_cons, List.all_nil, hone, Bool.and_self, and_self]
      rw [if_neg (by omega), if_neg (by omega), if_pos ⟨hl, by omega⟩, List.length_append]
      simp only [Hp.n_set, List.length_cons, List.length_nil]
    · rw [Hp.get_push_ne _ _ _ (by simp; omega), Hp.get_set_ne _ _ _ _ (by omega)]

theorem uniq_of : ∀ {obs : List (Option Nat)}, (obs.filterMap id).Nodup → ∀ {i j b : Nat}, obs[i]? = some (some b) → obs[j]? = some (some b) → i = j
  | [], _, i, j, b, hi, _ => by simp at hi
  | o :: obs, hd, i, j, b, hi, hj => by
    have mem : ∀ {k : Nat}, obs[k]? = some (some b) → b ∈ obs.filterMap id := fun hk => List.mem_filterMap.2 ⟨some b, List.mem_of_getElem? hk, rfl⟩
    cases o with
    | none =>
      have hd' : (obs.filterMap id).Nodup := by simpa using hd
      cases i with
      | zero => simp at hi
      | succ i =>
        cases j with
        | zero => simp at hj
        | succ j => exact congrArg (· + 1) (uniq_of hd' (b := b) (by simpa using hi) (by simpa using hj))
    | some c =>
      have hd' : c ∉ obs.filterMap id ∧ (obs.filterMap id).Nodup := by simpa using hd
      cases i with
      | zero =>
        simp only [List.getElem?_cons_zero, Option.some.injEq] at hi
        subst hi
        cases j with
        | zero => rfl
        | succ j => exact absurd (mem (by simpa using hj)) hd'.1
      | succ i =>
        cases j with
        | zero =>
          simp only [List.getElem?_cons_zero, Option.some.injEq] at hj
          subst hj
          exact absurd (mem (by simpa using hi)) hd'.1
        | succ j => exact congrArg (· + 1) (uniq_of hd'.2 (b := b) (by simpa using hi) (by simpa using hj))

/-- A row, cut to all its room. -/
def RowF (N : Nat) (h : AH) (ob : Option Nat) (x : AV) : Prop :=
  (ob = none ∧ x = .slice none 0 (.exact 0)) ∨
  ∃ b c cs, ob = some b ∧ x = .slice (some (b, 0)) c (.exact c) ∧ h.get b = some (.cells cs false) ∧ cs.length = c ∧ c ≤ maxLen ∧ b < N

structure InvA (h0 : AH) (bL m : Nat) (cap : Cap) (L : List AV) (n : Nat) (tm : List AV) (h : AH) : Prop where
  len : tm.length = 78
  t0 : tm.getD 0 AV.undef = .slice (some (bL, 0)) m cap
  st : ∃ i : Nat, n = m - i ∧ i ≤ m ∧ tm.getD 4 AV.undef = .int .i64 (i : Int) ∧ FreshC h0.n h (tm.getD 3 AV.undef) ((L.take i).map fullV)
  ext : Ext h0 h

def Marked (h : AH) (obs : List (Option Nat)) (j k : Nat) : Prop :=
  ∀ b cs, obs[j]? = some (some b) → h.get b = some (.cells cs false) → ∀ k', k' < k → k' < cs.length → cs[k']? = some (.int .i64 (mkI (j : Int) (k' : Int)))
def MarkedAll (h : AH) (obs : List (Option Nat)) (j : Nat) : Prop := ∀ k, Marked h obs j k

/-- What holds throughout, once the rows are listed. -/
structure Com (h0 : AH) (obs : List (Option Nat)) (R : List AV) (w : AV) (tm : List AV) (h : AH) : Prop where
  len : tm.length = 78
  t3 : tm.getD 3 AV.undef = w
  rows : ∀ (j : Nat) (x : AV), R[j]? = some x → ∃ ob, obs[j]? = some ob ∧ RowF h0.n h ob x
  wr : FreshC h0.n h w R
  keep : ∀ b, b < h0.n → b ∉ obs.filterMap id → h.get b = h0.get b
  nn : h0.n ≤ h.n

structure InvB (h0 : AH) (obs : List (Option Nat)) (R : List AV) (w : AV) (n : Nat) (tm : List AV) (h : AH) : Prop where
  com : Com h0 obs R w tm h
  st : ∃ i : Nat, n = R.length - i ∧ i ≤ R.length ∧ tm.getD 5 AV.undef = .int .i64 (i : Int) ∧ ∀ j, j < i → MarkedAll h obs j

structure InvB2 (h0 : AH) (obs : List (Option Nat)) (R : List AV) (w : AV) (i c : Nat) (n : Nat) (tm : List AV) (h : AH) : Prop where
  com : Com h0 obs R w tm h
  t5 : tm.getD 5 AV.undef = .int .i64 (i : Int)
  done : ∀ j, j < i → MarkedAll h obs j
  st : ∃ k : Nat, n = c - k ∧ k ≤ c ∧ tm.getD 6 AV.undef = .int .i64 (k : Int) ∧ Marked h obs i k

structure InvD3 (h0 hF : AH) (obs : List (Option Nat)) (R : List AV) (w : AV) (n : Nat) (tm : List AV) (h : AH) : Prop where
  heap : h = hF
  com : Com h0 obs R w tm h
  st : ∃ i : Nat, n = R.length - i ∧ i ≤ R.length ∧ tm.getD 7 AV.undef = .int .i64 (i : Int)

structure InvE3 (h0 hF : AH) (obs : List (Option Nat)) (R : List AV) (w : AV) (i c : Nat) (n : Nat) (tm : List AV) (h : AH) : Prop where
  heap : h = hF
  com : Com h0 obs R w tm h
  t7 : tm.getD 7 AV.undef = .int .i64 (i : Int)
  st : ∃ k : Nat, n = c - k ∧ k ≤ c ∧ tm.getD 8 AV.undef = .int .i64 (k : Int)

theorem RowF.full {N : Nat} {h : AH} {ob : Option Nat} {x : AV} (hr : RowF N h ob x) : ∃ a c, x = .slice a c (.exact c) ∧ c ≤ maxLen ∧ ((ob = none ∧ c = 0) ∨ ∃ b cs, ob = some b ∧ a = some (b, 0) ∧ h.get b = some (.cells cs false) ∧ cs.length = c ∧ b < N) := by
  rcases hr with ⟨rfl, rfl⟩ | ⟨b, c, cs, rfl, rfl, h1, h2, h3, h4⟩
  · exact ⟨_, _, rfl, by omega, .inl ⟨rfl, rfl⟩⟩
  · exact ⟨_, _, rfl, h3, .inr ⟨b, cs, rfl, rfl, h1, h2, h4⟩⟩

/-- One more place of one row is marked. -/
theorem com_write {h0 h : AH} {obs : List (Option Nat)} {R : List AV} {w : AV} {tm tm' : List AV} (I : Com h0 obs R w tm h) (hd : (obs.filterMap id).Nodup) {i b k : Nat} {cs : List AV} (ho : obs[i]? = some (some b)) (hb : h.get b = some (.cells cs false)) (hbn : b < h0.n) (hk : k < cs.length)
    (h1 : tm'.length = 78) (h2 : tm'.getD 3 AV.undef = w) (hdone : ∀ j, j < i → MarkedAll h obs j) (hm : Marked h obs i k) :
    Com h0 obs R w tm' (h.set b (.cells (cs.set k (.int .i64 (mkI (i : Int) (k : Int)))) false)) ∧ (∀ j, j < i → MarkedAll (h.set b (.cells (cs.set k (.int .i64 (mkI (i : Int) (k : Int)))) false)) obs j) ∧
      Marked (h.set b (.cells (cs.set k (.int .i64 (mkI (i : Int) (k : Int)))) false)) obs i (k + 1) := by
  refine ⟨⟨h1, h2, fun j x hx => ?_, I.wr.keep (by simp) fun b' g1 _ => Hp.get_set_ne _ _ _ _ (by omega), fun b' g1 g2 => ?_, by simpa using I.nn⟩, fun j hj k2 b' cs' g1 g2 => ?_, fun b' cs' g1 g2 k' g3 g4 => ?_⟩
  · obtain ⟨ob, q1, q2⟩ := I.rows j x hx
    refine ⟨ob, q1, ?_⟩
    rcases q2 with q2 | ⟨b', c', cs', rfl, rfl, q4, q5, q6, q7⟩
    · exact .inl q2
    · by_cases he : b' = b
      · subst he
        rw [hb] at q4
        cases q4
        exact .inr ⟨b', c', _, rfl, rfl, Hp.get_set_self _ _ _, by rw [List.length_set]; exact q5, q6, q7⟩
      · exact .inr ⟨b', c', cs', rfl, rfl, by rw [Hp.get_set_ne _ _ _ _ he]; exact q4, q5, q6, q7⟩
  · have : b' ≠ b := fun e => g2 (e ▸ List.mem_filterMap.2 ⟨some b, List.mem_of_getElem? ho, rfl⟩)
    rw [Hp.get_set_ne _ _ _ _ this]
    exact I.keep b' g1 g2
  · have : b' ≠ b := fun e => by
      have := uniq_of hd (e ▸ g1) ho
      omega
    rw [Hp.get_set_ne _ _ _ _ this] at g2
    exact hdone j hj k2 b' cs' g1 g2
  · have e : b' = b := by rw [ho] at g1; cases g1; rfl
    subst e
    rw [Hp.get_set_self] at g2
    cases g2
    rw [List.getElem?_set]
    rw [List.length_set] at g4
    split
    · rename_i hh
      subst hh
      first | rfl | rw [if_pos hk]
    · exact hm b' cs ho hb k' (by omega) g4

theorem maxLen_eq : maxLen = 9223372036854775807 := rfl

set_option maxRecDepth 100000 in
set_option maxHeartbeats 16000000 in
theorem apart_run : ApartRun Try.prog 1 21 := by
  intro h bL m cap ro L obs hL hbL hlm hm hlo hrow hobn hnd hnb
  suffices hs : ∃ v h1, acall noOrc T 21 [.slice (some (bL, 0)) m cap] h = some (v, h1) ∧ (v = .bool true ∧ ∀ b, b < h.n → b ∉ obs.filterMap id → h1.get b = h.get b) by
    obtain ⟨v, h1, e1, rfl, e3⟩ := hs
    exact ⟨h1, e1, e3⟩
  refine acall_facts (R := fun v h1 => v = .bool true ∧ ∀ b, b < h.n → b ∉ obs.filterMap id → h1.get b = h.get b) rfl tbl21 ?_
  have hmk := mark_spec (orc := noOrc) rfl
  have o3 : ∀ a y : AV, Fs.over [a] 0 [y] = [y] := fun _ _ => rfl
  have r1 : ∀ a : AV, Fs.reps [a] 1 = [a] := fun _ => rfl
  dsimp only [List.length, List.replicate, List.append, List.cons_append, List.nil_append, Nat.reduceAdd, Nat.reduceSub]
  repeat' first | (simp only [op_lenS, lenSV_str, op_lenV, lenV_slice, op_toInt, toIntV_int, op_iaddrS, RetK_inv, RetK_inv_exit, RetK_inv_ret, Nat.add_assoc, Nat.reduceEqDiff, Nat.reduceBEq, Nat.reduceBNe, Nat.le_min, Nat.le_add_right, Nat.min_self, Int.reduceBEq, Int.reduceBNe, Int.reduceLT, Int.reduceLE, Int.reduceEq, beq_self_eq_true, bne_self_eq_false, Bool.not_true, Bool.not_false, decide_true, decide_false, decide_eq_true_eq, Bool.and_eq_true, List.mapM_cons, List.mapM_nil, Option.bind_eq_bind, Option.pure_def, aeqK_agg, aeqK_scal, leavesK_nil, leavesK_cons, leafK_i, leafK_b, leafK_s, DrawK_nil, DrawK_cons, DrawK_guard, DResK_some, DGuardK_tt, DGuardK_ff, DGuardK_tf, DGuardK_ft, DGuardK_u, kept_load, Kept, KeptOne, closeOp, CO.quiet, CO.reads, CodeK_seq, CodeK_region, CodeK_skip, CodeK_ret, CodeK_exit, CodeK_cond, CodeK_block, CondK_true, CondK_false, RunK_cons, RunK_nil, RunK_guard, GuardK_tt, GuardK_ff, GuardK_tf, GuardK_ft, GuardK_u, ResK_some, RetK_nil, RetK_seq, RetK_seq_exit, RetK_seq_ret, RetK_block, RetK_block_ret, RetK_block_exit, RetK_block_exit_ne, op_mv, op_un, op_bin, op_load, loadV_ptr, op_faddr, faddrV_ptr, op_pick, pickV_true, pickV_false, pickV_bool, pickV_same, op_box, boxV_agg, op_call, op_build, op_ext, op_alloc, op_store, storeV_ptr, List.all_cons, List.all_nil, AV.one, AV.cells, Bool.and_self, Bool.and_true, Bool.true_and, put, CA.ev, List.set_cons_zero, List.set_cons_succ, List.getD_cons_zero, List.getD_cons_succ, abin, aint, aun, isShift, Option.map_some, Option.bind_some, List.map_cons, List.map_nil, Hp.n_withLow, Hp.n_push, Hp.n_set, Hp.low_withLow, Hp.low_push, Hp.low_set, Hp.get_push, Hp.get_set, Hp.get_withLow, readVar, readCell, readCells, writeCells, cut, fillA, Bool.false_eq_true, if_false, if_true, reduceIte, List.getElem?_cons_zero, List.getElem?_cons_succ, Nat.zero_add, Nat.add_zero, Nat.reduceAdd, Nat.reduceSub, Nat.reduceLT, Nat.reduceLeDiff, Nat.reduceEqDiff, List.length_cons, List.length_nil, List.take_succ_cons, List.take_zero, List.drop_zero, List.drop_succ_cons, List.cons_append, List.nil_append, List.append_nil, DoneK, resAll, resOne, AV.under, AV.unders, and_true, true_and, and_self, or_true, true_or, cond_true, cond_false, Nat.le_refl, Nat.add_eq_left, Nat.left_eq_add, Nat.add_right_cancel_iff, Nat.add_left_cancel_iff, *]) | (refine GuardK_split (fun hb => ?_) (fun hb => ?_)) | (refine CondK_split (fun hb => ?_) (fun hb => ?_)) | (refine CodeK_regionD _ ?_) | (refine DGuardK_split (fun hb => ?_) (fun hb => ?_))
  refine CodeK_loop (InvA h bL m cap L) m ?_ ?_
  · exact ⟨rfl, rfl, ⟨0, by omega, by omega, rfl, .inl ⟨rfl, rfl⟩⟩, Ext.low _ _⟩
  intro n tm h' I
  obtain ⟨i, hn, hi, e4, hf⟩ := I.st
  have el := I.len
  have e0 := I.t0
  have hext := I.ext
  generalize hw : tm.getD 3 AV.undef = w at hf
  by_cases hlt : i < m
  case pos =>
    have l1 : decide ((i : Int) < (m : Int)) = true := by simp; omega
    have gi := List.getElem?_eq_getElem (l := L) (i := i) (by omega)
    have htk : (L.take (i + 1)).map fullV = (L.take i).map fullV ++ [fullV (L[i]'(by omega))] := by
      rw [List.take_add_one, gi, List.map_append]; rfl
    generalize L[i]'(by omega) = x at gi htk
    obtain ⟨ob, _, hox⟩ := hrow i x gi
    obtain ⟨c, a, hfe, hc, hs⟩ := slc_cap hox
    rw [hfe] at htk
    have gL : h'.get bL = some (.cells L ro) := by rw [hext.2 bL hbL, hL]
    have ia : ∀ hy : AH, iaddrV 1 (.slice (some (bL, 0)) m cap) (.int .i64 (i : Int)) hy = some (.ptr (some (bL, i)), hy) := fun hy => by rw [iaddrV_nat hlt, Nat.mul_one, Nat.zero_add]
    have w1 : IntKind.wrap .i64 ((i : Int) + 1) = ((i + 1 : Nat) : Int) := by rw [wrap_i64 (by omega) (by omega)]; omega
    have hhn := hext.1
    have hRl : ((L.take i).map fullV).length ≤ i := by simp; omega
    repeat' first | (simp only [op_lenS, lenSV_str, op_lenV, lenV_slice, op_toInt, toIntV_int, op_iaddrS, RetK_inv, RetK_inv_exit, RetK_inv_ret, Nat.add_assoc, Nat.reduceEqDiff, Nat.reduceBEq, Nat.reduceBNe, Nat.le_min, Nat.le_add_right, Nat.min_self, Int.reduceBEq, Int.reduceBNe, Int.reduceLT, Int.reduceLE, Int.reduceEq, beq_self_eq_true, bne_self_eq_false, Bool.not_true, Bool.not_false, decide_true, decide_false, decide_eq_true_eq, Bool.and_eq_true, List.mapM_cons, List.mapM_nil, Option.bind_eq_bind, Option.pure_def, aeqK_agg, aeqK_scal, leavesK_nil, leavesK_cons, leafK_i, leafK_b, leafK_s, DrawK_nil, DrawK_cons, DrawK_guard, DResK_some, DGuardK_tt, DGuardK_ff, DGuardK_tf, DGuardK_ft, DGuardK_u, kept_load, Kept, KeptOne, closeOp, CO.quiet, CO.reads, CodeK_seq, CodeK_region, CodeK_skip, CodeK_ret, CodeK_exit, CodeK_cond, CodeK_block, CondK_true, CondK_false, RunK_cons, RunK_nil, RunK_guard, GuardK_tt, GuardK_ff, GuardK_tf, GuardK_ft, GuardK_u, ResK_some, RetK_nil, RetK_seq, RetK_seq_exit, RetK_seq_ret, RetK_block, RetK_block_ret, RetK_block_exit, RetK_block_exit_ne, op_mv, op_un, op_bin, op_load, loadV_ptr, op_faddr, faddrV_ptr, op_pick, pickV_true, pickV_false, pickV_bool, pickV_same, op_box, boxV_agg, op_call, op_build, op_ext, op_alloc, op_store, storeV_ptr, List.all_cons, List.all_nil, AV.one, AV.cells, Bool.and_self, Bool.and_true, Bool.true_and, put, CA.ev, List.set_cons_zero, List.set_cons_succ, List.getD_cons_zero, List.getD_cons_succ, abin, aint, aun, isShift, Option.map_some, Option.bind_some, List.map_cons, List.map_nil, Hp.n_withLow, Hp.n_push, Hp.n_set, Hp.low_withLow, Hp.low_push, Hp.low_set, Hp.get_push, Hp.get_set, Hp.get_withLow, readVar, readCell, readCells, writeCells, cut, fillA, Bool.false_eq_true, if_false, if_true, reduceIte, List.getElem?_cons_zero, List.getElem?_cons_succ, Nat.zero_add, Nat.add_zero, Nat.reduceAdd, Nat.reduceSub, Nat.reduceLT, Nat.reduceLeDiff, Nat.reduceEqDiff, List.length_cons, List.length_nil, List.take_succ_cons, List.take_zero, List.drop_zero, List.drop_succ_cons, List.cons_append, List.nil_append, List.append_nil, DoneK, resAll, resOne, AV.under, AV.unders, and_true, true_and, and_self, or_true, true_or, cond_true, cond_false, Nat.le_refl, Nat.add_eq_left, Nat.left_eq_add, Nat.add_right_cancel_iff, Nat.add_left_cancel_iff, el, e0, hw, e4, l1, ia, gL, gi, op_cap, hc, op_slcV, hs, op_litS, fillA, o3, r1, op_append, tmset_self, tmset_ne, List.length_set, Nat.reduceBEq, Nat.reduceLT, *]) | (refine GuardK_split (fun hb => ?_) (fun hb => ?_)) | (refine CondK_split (fun hb => ?_) (fun hb => ?_)) | (refine CodeK_regionD _ ?_) | (refine DGuardK_split (fun hb => ?_) (fun hb => ?_))
    refine DResK_ex (app_c (N := h.n) (hf.keep (by simp) fun b _ g2 => Hp.get_push_ne _ _ _ (by omega)) (by simp; omega) rfl (by omega) (by omega) (Hp.get_push_self _ _)) fun v2 h2 hL2 => ?_
    obtain ⟨k1, k2, k3⟩ := hL2
    simp only [Hp.n_push] at k2
    repeat' first | (simp only [op_lenS, lenSV_str, op_lenV, lenV_slice, op_toInt, toIntV_int, op_iaddrS, RetK_inv, RetK_inv_exit, RetK_inv_ret, Nat.add_assoc, Nat.reduceEqDiff, Nat.reduceBEq, Nat.reduceBNe, Nat.le_min, Nat.le_add_right, Nat.min_self, Int.reduceBEq, Int.reduceBNe, Int.reduceLT, Int.reduceLE, Int.reduceEq, beq_self_eq_true, bne_self_eq_false, Bool.not_true, Bool.not_false, decide_true, decide_false, decide_eq_true_eq, Bool.and_eq_true, List.mapM_cons, List.mapM_nil, Option.bind_eq_bind, Option.pure_def, aeqK_agg, aeqK_scal, leavesK_nil, leavesK_cons, leafK_i, leafK_b, leafK_s, DrawK_nil, DrawK_cons, DrawK_guard, DResK_some, DGuardK_tt, DGuardK_ff, DGuardK_tf, DGuardK_ft, DGuardK_u, kept_load, Kept, KeptOne, closeOp, CO.quiet, CO.reads, CodeK_seq, CodeK_region, CodeK_skip, CodeK_ret, CodeK_exit, CodeK_cond, CodeK_block, CondK_true, CondK_false, RunK_cons, RunK_nil, RunK_guard, GuardK_tt, GuardK_ff, GuardK_tf, GuardK_ft, GuardK_u, ResK_some, RetK_nil, RetK_seq, RetK_seq_exit, RetK_seq_ret, RetK_block, RetK_block_ret, RetK_block_exit, RetK_block_exit_ne, op_mv, op_un, op_bin, op_load, loadV_ptr, op_faddr, faddrV_ptr, op_pick, pickV_true, pickV_false, pickV_bool, pickV_same, op_box, boxV_agg, op_call, op_build, op_ext, op_alloc, op_store, storeV_ptr, List.all_cons, List.all_nil, AV.one, AV.cells, Bool.and_self, Bool.and_true, Bool.true_and, put, CA.ev, List.set_cons_zero, List.set_cons_succ, List.getD_cons_zero, List.getD_cons_succ, abin, aint, aun, isShift, Option.map_some, Option.bind_some, List.map_cons, List.map_nil, Hp.n_withLow, Hp.n_push, Hp.n_set, Hp.low_withLow, Hp.low_push, Hp.low_set, Hp.get_push, Hp.get_set, Hp.get_withLow, readVar, readCell, readCells, writeCells, cut, fillA, Bool.false_eq_true, if_false, if_true, reduceIte, List.getElem?_cons_zero, List.getElem?_cons_succ, Nat.zero_add, Nat.add_zero, Nat.reduceAdd, Nat.reduceSub, Nat.reduceLT, Nat.reduceLeDiff, Nat.reduceEqDiff, List.length_cons, List.length_nil, List.take_succ_cons, List.take_zero, List.drop_zero, List.drop_succ_cons, List.cons_append, List.nil_append, List.append_nil, DoneK, resAll, resOne, AV.under, AV.unders, and_true, true_and, and_self, or_true, true_or, cond_true, cond_false, Nat.le_refl, Nat.add_eq_left, Nat.left_eq_add, Nat.add_right_cancel_iff, Nat.add_left_cancel_iff, el, e0, hw, e4, gL, gi, w1, tmset_self, tmset_ne, List.length_set, Nat.reduceBEq, Nat.reduceLT, *]) | (refine GuardK_split (fun hb => ?_) (fun hb => ?_)) | (refine CondK_split (fun hb => ?_) (fun hb => ?_)) | (refine CodeK_regionD _ ?_) | (refine DGuardK_split (fun hb => ?_) (fun hb => ?_))
    refine ⟨m - (i + 1), by omega, by simp only [List.length_set, el], by simp only [tmset_self, tmset_ne, List.length_set, Nat.reduceBEq, Nat.reduceLT, el, e0], ⟨i + 1, rfl, by omega, by simp only [tmset_self, tmset_ne, List.length_set, Nat.reduceBEq, Nat.reduceLT, el], ?_⟩, by omega, fun b hb => ?_⟩
    · rw [htk]
      simp only [tmset_self, tmset_ne, List.length_set, Nat.reduceBEq, Nat.reduceLT, el]
      exact k1
    · rw [k3 b hb, Hp.get_push_ne _ _ _ (by omega), hext.2 b hb]
  case neg =>
  have him : i = m := by omega
  subst him
  have l1 : decide ((i : Int) < (i : Int)) = false := by simp
  have hRall : (L.take i).map fullV = L.map fullV := by rw [List.take_of_length_le (by omega)]
  rw [hRall] at hf
  have hrl : (L.map fullV).length = i := by simp [hlm]
  generalize hR : L.map fullV = R at *
  have hcom : ∀ tm2 : List AV, tm2.length = 78 → tm2.getD 3 AV.undef = w → Com h obs R w tm2 h' := fun tm2 q1 q2 => ⟨q1, q2, fun j x hx => by
    rw [← hR, List.getElem?_map] at hx
    obtain ⟨y, hy, rfl⟩ := Option.map_eq_some_iff.1 hx
    obtain ⟨ob, g1, g2⟩ := hrow j y hy
    refine ⟨ob, g1, ?_⟩
    rcases g2 with ⟨rfl, rfl⟩ | ⟨b, len, c, cs, rfl, rfl, g3, g4, g5, g6⟩
    · exact .inl ⟨rfl, rfl⟩
    · have hbn := hobn b (List.mem_of_getElem? g1)
      exact .inr ⟨b, c, cs, rfl, rfl, by rw [hext.2 b hbn, g3], by omega, g6, hbn⟩, hf, fun b q3 _ => hext.2 b q3, hext.1⟩
  repeat' first | (simp only [op_lenS, lenSV_str, op_lenV, lenV_slice, op_toInt, toIntV_int, op_iaddrS, RetK_inv, RetK_inv_exit, RetK_inv_ret, Nat.add_assoc, Nat.reduceEqDiff, Nat.reduceBEq, Nat.reduceBNe, Nat.le_min, Nat.le_add_right, Nat.min_self, Int.reduceBEq, Int.reduceBNe, Int.reduceLT, Int.reduceLE, Int.reduceEq, beq_self_eq_true, bne_self_eq_false, Bool.not_true, Bool.not_false, decide_true, decide_false, decide_eq_true_eq, Bool.and_eq_true, List.mapM_cons, List.mapM_nil, Option.bind_eq_bind, Option.pure_def, aeqK_agg, aeqK_scal, leavesK_nil, leavesK_cons, leafK_i, leafK_b, leafK_s, DrawK_nil, DrawK_cons, DrawK_guard, DResK_some, DGuardK_tt, DGuardK_ff, DGuardK_tf, DGuardK_ft, DGuardK_u, kept_load, Kept, KeptOne, closeOp, CO.quiet, CO.reads, CodeK_seq, CodeK_region, CodeK_skip, CodeK_ret, CodeK_exit, CodeK_cond, CodeK_block, CondK_true, CondK_false, RunK_cons, RunK_nil, RunK_guard, GuardK_tt, GuardK_ff, GuardK_tf, GuardK_ft, GuardK_u, ResK_some, RetK_nil, RetK_seq, RetK_seq_exit, RetK_seq_ret, RetK_block, RetK_block_ret, RetK_block_exit, RetK_block_exit_ne, op_mv, op_un, op_bin, op_load, loadV_ptr, op_faddr, faddrV_ptr, op_pick, pickV_true, pickV_false, pickV_bool, pickV_same, op_box, boxV_agg, op_call, op_build, op_ext, op_alloc, op_store, storeV_ptr, List.all_cons, List.all_nil, AV.one, AV.cells, Bool.and_self, Bool.and_true, Bool.true_and, put, CA.ev, List.set_cons_zero, List.set_cons_succ, List.getD_cons_zero, List.getD_cons_succ, abin, aint, aun, isShift, Option.map_some, Option.bind_some, List.map_cons, List.map_nil, Hp.n_withLow, Hp.n_push, Hp.n_set, Hp.low_withLow, Hp.low_push, Hp.low_set, Hp.get_push, Hp.get_set, Hp.get_withLow, readVar, readCell, readCells, writeCells, cut, fillA, Bool.false_eq_true, if_false, if_true, reduceIte, List.getElem?_cons_zero, List.getElem?_cons_succ, Nat.zero_add, Nat.add_zero, Nat.reduceAdd, Nat.reduceSub, Nat.reduceLT, Nat.reduceLeDiff, Nat.reduceEqDiff, List.length_cons, List.length_nil, List.take_succ_cons, List.take_zero, List.drop_zero, List.drop_succ_cons, List.cons_append, List.nil_append, List.append_nil, DoneK, resAll, resOne, AV.under, AV.unders, and_true, true_and, and_self, or_true, true_or, cond_true, cond_false, Nat.le_refl, Nat.add_eq_left, Nat.left_eq_add, Nat.add_right_cancel_iff, Nat.add_left_cancel_iff, el, e0, hw, e4, l1, tmset_self, tmset_ne, List.length_set, Nat.reduceBEq, Nat.reduceLT, *]) | (refine GuardK_split (fun hb => ?_) (fun hb => ?_)) | (refine CondK_split (fun hb => ?_) (fun hb => ?_)) | (refine CodeK_regionD _ ?_) | (refine DGuardK_split (fun hb => ?_) (fun hb => ?_))
  refine CodeK_loop (InvB h obs R w) R.length ?_ ?_
  · exact ⟨hcom _ (by simp only [List.length_set, el]) (by simp only [tmset_self, tmset_ne, List.length_set, Nat.reduceBEq, Nat.reduceLT, el, hw]), 0, by omega, by omega, by simp only [tmset_self, tmset_ne, List.length_set, Nat.reduceBEq, Nat.reduceLT, el]; rfl, fun j hj => by omega⟩
  have hRm : R.length ≤ 1000000 := by omega
  clear hcom hf hw e0 e4 el hext I l1 hrl
  intro n tm h' I
  obtain ⟨i2, hn, hi, e5, hdone⟩ := I.st
  have C := I.com
  have el := C.len
  have e3 := C.t3
  have hlen := C.wr.len
  by_cases hlt : i2 < R.length
  case pos =>
    have l1 : decide ((i2 : Int) < (R.length : Int)) = true := by simp; omega
    repeat' first | (simp only [op_lenS, lenSV_str, op_lenV, lenV_slice, op_toInt, toIntV_int, op_iaddrS, RetK_inv, RetK_inv_exit, RetK_inv_ret, Nat.add_assoc, Nat.reduceEqDiff, Nat.reduceBEq, Nat.reduceBNe, Nat.le_min, Nat.le_add_right, Nat.min_self, Int.reduceBEq, Int.reduceBNe, Int.reduceLT, Int.reduceLE, Int.reduceEq, beq_self_eq_true, bne_self_eq_false, Bool.not_true, Bool.not_false, decide_true, decide_false, decide_eq_true_eq, Bool.and_eq_true, List.mapM_cons, List.mapM_nil, Option.bind_eq_bind, Option.pure_def, aeqK_agg, aeqK_scal, leavesK_nil, leavesK_cons, leafK_i, leafK_b, leafK_s, DrawK_nil, DrawK_cons, DrawK_guard, DResK_some, DGuardK_tt, DGuardK_ff, DGuardK_tf, DGuardK_ft, DGuardK_u, kept_load, Kept, KeptOne, closeOp, CO.quiet, CO.reads, CodeK_seq, CodeK_region, CodeK_skip, CodeK_ret, CodeK_exit, CodeK_cond, CodeK_block, CondK_true, CondK_false, RunK_cons, RunK_nil, RunK_guard, GuardK_tt, GuardK_ff, GuardK_tf, GuardK_ft, GuardK_u, ResK_some, RetK_nil, RetK_seq, RetK_seq_exit, RetK_seq_ret, RetK_block, RetK_block_ret, RetK_block_exit, RetK_block_exit_ne, op_mv, op_un, op_bin, op_load, loadV_ptr, op_faddr, faddrV_ptr, op_pick, pickV_true, pickV_false, pickV_bool, pickV_same, op_box, boxV_agg, op_call, op_build, op_ext, op_alloc, op_store, storeV_ptr, List.all_cons, List.all_nil, AV.one, AV.cells, Bool.and_self, Bool.and_true, Bool.true_and, put, CA.ev, List.set_cons_zero, List.set_cons_succ, List.getD_cons_zero, List.getD_cons_succ, abin, aint, aun, isShift, Option.map_some, Option.bind_some, List.map_cons, List.map_nil, Hp.n_withLow, Hp.n_push, Hp.n_set, Hp.low_withLow, Hp.low_push, Hp.low_set, Hp.get_push, Hp.get_set, Hp.get_withLow, readVar, readCell, readCells, writeCells, cut, fillA, Bool.false_eq_true, if_false, if_true, reduceIte, List.getElem?_cons_zero, List.getElem?_cons_succ, Nat.zero_add, Nat.add_zero, Nat.reduceAdd, Nat.reduceSub, Nat.reduceLT, Nat.reduceLeDiff, Nat.reduceEqDiff, List.length_cons, List.length_nil, List.take_succ_cons, List.take_zero, List.drop_zero, List.drop_succ_cons, List.cons_append, List.nil_append, List.append_nil, DoneK, resAll, resOne, AV.under, AV.unders, and_true, true_and, and_self, or_true, true_or, cond_true, cond_false, Nat.le_refl, Nat.add_eq_left, Nat.left_eq_add, Nat.add_right_cancel_iff, Nat.add_left_cancel_iff, el, e3, e5, hlen, l1, tmset_self, tmset_ne, List.length_set, Nat.reduceBEq, Nat.reduceLT, *]) | (refine GuardK_split (fun hb => ?_) (fun hb => ?_)) | (refine CondK_split (fun hb => ?_) (fun hb => ?_)) | (refine CodeK_regionD _ ?_) | (refine DGuardK_split (fun hb => ?_) (fun hb => ?_))
    have gx := List.getElem?_eq_getElem hlt
    generalize R[i2]'hlt = x at gx
    obtain ⟨ob, hob, hrf⟩ := C.rows i2 x gx
    obtain ⟨a, c, rfl, hcm, hcase⟩ := hrf.full
    rw [maxLen_eq] at hcm
    refine CodeK_loop (InvB2 h obs R w i2 c) c ?_ ?_
    · exact ⟨⟨by simp only [List.length_set, el], by simp only [tmset_self, tmset_ne, List.length_set, Nat.reduceBEq, Nat.reduceLT, el, e3], C.rows, C.wr, C.keep, C.nn⟩, by simp only [tmset_self, tmset_ne, List.length_set, Nat.reduceBEq, Nat.reduceLT, el, e5], hdone, 0, by omega, by omega, by simp only [tmset_self, tmset_ne, List.length_set, Nat.reduceBEq, Nat.reduceLT, el]; rfl, fun b cs _ _ k' hk' => by omega⟩
    clear hcase hrf C el e3 hlen l1 hdone e5 I
    intro n2 tm h' I
    obtain ⟨k, hn2, hk, e6, hmk2⟩ := I.st
    have C := I.com
    have el := C.len
    have e3 := C.t3
    have e5 := I.t5
    have hlen := C.wr.len
    obtain ⟨bA, ia, gA, hbA⟩ := C.wr.at gx
    have hlen2 : ∀ hy, lenV (.slice a c (.exact c)) hy = some (.int .i64 (c : Int), hy) := fun _ => rfl
    obtain ⟨ob', hob', hrf⟩ := C.rows i2 _ gx
    obtain rfl : ob' = ob := by rw [hob] at hob'; exact (Option.some.inj hob').symm
    obtain ⟨a', c', hac, _, hcase⟩ := hrf.full
    cases hac
    by_cases hltk : k < c
    case pos =>
      have l2 : decide ((k : Int) < (c : Int)) = true := by simp; omega
      rcases hcase with ⟨_, h0⟩ | ⟨b, cs, rfl, rfl, g3, g4, g5⟩
      · omega
      have ib : ∀ hy : AH, iaddrV 1 (.slice (some (b, 0)) c (.exact c)) (.int .i64 (k : Int)) hy = some (.ptr (some (b, k)), hy) := fun hy => by rw [iaddrV_nat hltk, Nat.mul_one, Nat.zero_add]
      have w1 : IntKind.wrap .i64 ((k : Int) + 1) = ((k + 1 : Nat) : Int) := by rw [wrap_i64 (by omega) (by omega)]; omega
      have ov : ∀ y : AV, Fs.over cs k [y] = cs.set k y := fun y => over_set (by omega) y
      have k3 : k + 1 ≤ c := by omega
      repeat' first | (simp only [op_lenS, lenSV_str, op_lenV, lenV_slice, op_toInt, toIntV_int, op_iaddrS, RetK_inv, RetK_inv_exit, RetK_inv_ret, Nat.add_assoc, Nat.reduceEqDiff, Nat.reduceBEq, Nat.reduceBNe, Nat.le_min, Nat.le_add_right, Nat.min_self, Int.reduceBEq, Int.reduceBNe, Int.reduceLT, Int.reduceLE, Int.reduceEq, beq_self_eq_true, bne_self_eq_false, Bool.not_true, Bool.not_false, decide_true, decide_false, decide_eq_true_eq, Bool.and_eq_true, List.mapM_cons, List.mapM_nil, Option.bind_eq_bind, Option.pure_def, aeqK_agg, aeqK_scal, leavesK_nil, leavesK_cons, leafK_i, leafK_b, leafK_s, DrawK_nil, DrawK_cons, DrawK_guard, DResK_some, DGuardK_tt, DGuardK_ff, DGuardK_tf, DGuardK_ft, DGuardK_u, kept_load, Kept, KeptOne, closeOp, CO.quiet, CO.reads, CodeK_seq, CodeK_region, CodeK_skip, CodeK_ret, CodeK_exit, CodeK_cond, CodeK_block, CondK_true, CondK_false, RunK_cons, RunK_nil, RunK_guard, GuardK_tt, GuardK_ff, GuardK_tf, GuardK_ft, GuardK_u, ResK_some, RetK_nil, RetK_seq, RetK_seq_exit, RetK_seq_ret, RetK_block, RetK_block_ret, RetK_block_exit, RetK_block_exit_ne, op_mv, op_un, op_bin, op_load, loadV_ptr, op_faddr, faddrV_ptr, op_pick, pickV_true, pickV_false, pickV_bool, pickV_same, op_box, boxV_agg, op_call, op_build, op_ext, op_alloc, op_store, storeV_ptr, List.all_cons, List.all_nil, AV.one, AV.cells, Bool.and_self, Bool.and_true, Bool.true_and, put, CA.ev, List.set_cons_zero, List.set_cons_succ, List.getD_cons_zero, List.getD_cons_succ, abin, aint, aun, isShift, Option.map_some, Option.bind_some, List.map_cons, List.map_nil, Hp.n_withLow, Hp.n_push, Hp.n_set, Hp.low_withLow, Hp.low_push, Hp.low_set, Hp.get_push, Hp.get_set, Hp.get_withLow, readVar, readCell, readCells, writeCells, cut, fillA, Bool.false_eq_true, if_false, if_true, reduceIte, List.getElem?_cons_zero, List.getElem?_cons_succ, Nat.zero_add, Nat.add_zero, Nat.reduceAdd, Nat.reduceSub, Nat.reduceLT, Nat.reduceLeDiff, Nat.reduceEqDiff, List.length_cons, List.length_nil, List.take_succ_cons, List.take_zero, List.drop_zero, List.drop_succ_cons, List.cons_append, List.nil_append, List.append_nil, DoneK, resAll, resOne, AV.under, AV.unders, and_true, true_and, and_self, or_true, true_or, cond_true, cond_false, Nat.le_refl, Nat.add_eq_left, Nat.left_eq_add, Nat.add_right_cancel_iff, Nat.add_left_cancel_iff, el, e3, e5, e6, ia, gA, gx, hlen2, l2, hmk, ib, g3, ov, k3, w1, tmset_self, tmset_ne, List.length_set, Nat.reduceBEq, Nat.reduceLT, *]) | (refine GuardK_split (fun hb => ?_) (fun hb => ?_)) | (refine CondK_split (fun hb => ?_) (fun hb => ?_)) | (refine CodeK_regionD _ ?_) | (refine DGuardK_split (fun hb => ?_) (fun hb => ?_))
      have cw := com_write (tm' := tm) C hnd hob g3 g5 (k := k) (by omega) el e3 I.done hmk2
      exact ⟨c - (k + 1), by omega, ⟨by simp only [List.length_set, el], by simp only [tmset_self, tmset_ne, List.length_set, Nat.reduceBEq, Nat.reduceLT, el, e3], cw.1.rows, cw.1.wr, cw.1.keep, cw.1.nn⟩, by simp only [tmset_self, tmset_ne, List.length_set, Nat.reduceBEq, Nat.reduceLT, el, e5], cw.2.1, k + 1, rfl, by omega, by simp only [tmset_self, tmset_ne, List.length_set, Nat.reduceBEq, Nat.reduceLT, el], cw.2.2⟩
    case neg =>
      have hkc : k = c := by omega
      subst hkc
      have l2 : decide ((k : Int) < (k : Int)) = false := by simp
      have w1 : IntKind.wrap .i64 ((i2 : Int) + 1) = ((i2 + 1 : Nat) : Int) := by rw [wrap_i64 (by omega) (by omega)]; omega
      repeat' first | (simp only [op_lenS, lenSV_str, op_lenV, lenV_slice, op_toInt, toIntV_int, op_iaddrS, RetK_inv, RetK_inv_exit, RetK_inv_ret, Nat.add_assoc, Nat.reduceEqDiff, Nat.reduceBEq, Nat.reduceBNe, Nat.le_min, Nat.le_add_right, Nat.min_self, Int.reduceBEq, Int.reduceBNe, Int.reduceLT, Int.reduceLE, Int.reduceEq, beq_self_eq_true, bne_self_eq_false, Bool.not_true, Bool.not_false, decide_true, decide_false, decide_eq_true_eq, Bool.and_eq_true, List.mapM_cons, List.mapM_nil, Option.bind_eq_bind, Option.pure_def, aeqK_agg, aeqK_scal, leavesK_nil, leavesK_cons, leafK_i, leafK_b, leafK_s, DrawK_nil, DrawK_cons, DrawK_guard, DResK_some, DGuardK_tt, DGuardK_ff, DGuardK_tf, DGuardK_ft, DGuardK_u, kept_load, Kept, KeptOne, closeOp, CO.quiet, CO.reads, CodeK_seq, CodeK_region, CodeK_skip, CodeK_ret, CodeK_exit, CodeK_cond, CodeK_block, CondK_true, CondK_false, RunK_cons, RunK_nil, RunK_guard, GuardK_tt, GuardK_ff, GuardK_tf, GuardK_ft, GuardK_u, ResK_some, RetK_nil, RetK_seq, RetK_seq_exit, RetK_seq_ret, RetK_block, RetK_block_ret, RetK_block_exit, RetK_block_exit_ne, op_mv, op_un, op_bin, op_load, loadV_ptr, op_faddr, faddrV_ptr, op_pick, pickV_true, pickV_false, pickV_bool, pickV_same, op_box, boxV_agg, op_call, op_build, op_ext, op_alloc, op_store, storeV_ptr, List.all_cons, List.all_nil, AV.one, AV.cells, Bool.and_self, Bool.and_true, Bool.true_and, put, CA.ev, List.set_cons_zero, List.set_cons_succ, List.getD_cons_zero, List.getD_cons_succ, abin, aint, aun, isShift, Option.map_some, Option.bind_some, List.map_cons, List.map_nil, Hp.n_withLow, Hp.n_push, Hp.n_set, Hp.low_withLow, Hp.low_push, Hp.low_set, Hp.get_push, Hp.get_set, Hp.get_withLow, readVar, readCell, readCells, writeCells, cut, fillA, Bool.false_eq_true, if_false, if_true, reduceIte, List.getElem?_cons_zero, List.getElem?_cons_succ, Nat.zero_add, Nat.add_zero, Nat.reduceAdd, Nat.reduceSub, Nat.reduceLT, Nat.reduceLeDiff, Nat.reduceEqDiff, List.length_cons, List.length_nil, List.take_succ_cons, List.take_zero, List.drop_zero, List.drop_succ_cons, List.cons_append, List.nil_append, List.append_nil, DoneK, resAll, resOne, AV.under, AV.unders, and_true, true_and, and_self, or_true, true_or, cond_true, cond_false, Nat.le_refl, Nat.add_eq_left, Nat.left_eq_add, Nat.add_right_cancel_iff, Nat.add_left_cancel_iff, el, e3, e5, e6, ia, gA, gx, hlen2, l2, w1, tmset_self, tmset_ne, List.length_set, Nat.reduceBEq, Nat.reduceLT, *]) | (refine GuardK_split (fun hb => ?_) (fun hb => ?_)) | (refine CondK_split (fun hb => ?_) (fun hb => ?_)) | (refine CodeK_regionD _ ?_) | (refine DGuardK_split (fun hb => ?_) (fun hb => ?_))
      refine ⟨R.length - (i2 + 1), by omega, ⟨by simp only [List.length_set, el], by simp only [tmset_self, tmset_ne, List.length_set, Nat.reduceBEq, Nat.reduceLT, el, e3], C.rows, C.wr, C.keep, C.nn⟩, i2 + 1, rfl, by omega, by simp only [tmset_self, tmset_ne, List.length_set, Nat.reduceBEq, Nat.reduceLT, el], fun j hj => ?_⟩
      by_cases hj2 : j < i2
      · exact I.done j hj2
      · obtain rfl : j = i2 := by omega
        intro k2 b cs q1 q2 k' _ q4
        refine hmk2 b cs q1 q2 k' ?_ q4
        rcases hcase with ⟨rfl, _⟩ | ⟨b', cs', rfl, _, g3, g4, _⟩
        · rw [hob] at q1; cases q1
        · rw [hob] at q1; cases q1
          rw [g3] at q2; cases q2
          omega
  case neg =>
  have hiR : i2 = R.length := by omega
  subst hiR
  have l1 : decide ((R.length : Int) < (R.length : Int)) = false := by simp
  repeat' first | (simp only [op_lenS, lenSV_str, op_lenV, lenV_slice, op_toInt, toIntV_int, op_iaddrS, RetK_inv, RetK_inv_exit, RetK_inv_ret, Nat.add_assoc, Nat.reduceEqDiff, Nat.reduceBEq, Nat.reduceBNe, Nat.le_min, Nat.le_add_right, Nat.min_self, Int.reduceBEq, Int.reduceBNe, Int.reduceLT, Int.reduceLE, Int.reduceEq, beq_self_eq_true, bne_self_eq_false, Bool.not_true, Bool.not_false, decide_true, decide_false, decide_eq_true_eq, Bool.and_eq_true, List.mapM_cons, List.mapM_nil, Option.bind_eq_bind, Option.pure_def, aeqK_agg, aeqK_scal, leavesK_nil, leavesK_cons, leafK_i, leafK_b, leafK_s, DrawK_nil, DrawK_cons, DrawK_guard, DResK_some, DGuardK_tt, DGuardK_ff, DGuardK_tf, DGuardK_ft, DGuardK_u, kept_load, Kept, KeptOne, closeOp, CO.quiet, CO.reads, CodeK_seq, CodeK_region, CodeK_skip, CodeK_ret, CodeK_exit, CodeK_cond, CodeK_block, CondK_true, CondK_false, RunK_cons, RunK_nil, RunK_guard, GuardK_tt, GuardK_ff, GuardK_tf, GuardK_ft, GuardK_u, ResK_some, RetK_nil, RetK_seq, RetK_seq_exit, RetK_seq_ret, RetK_block, RetK_block_ret, RetK_block_exit, RetK_block_exit_ne, op_mv, op_un, op_bin, op_load, loadV_ptr, op_faddr, faddrV_ptr, op_pick, pickV_true, pickV_false, pickV_bool, pickV_same, op_box, boxV_agg, op_call, op_build, op_ext, op_alloc, op_store, storeV_ptr, List.all_cons, List.all_nil, AV.one, AV.cells, Bool.and_self, Bool.and_true, Bool.true_and, put, CA.ev, List.set_cons_zero, List.set_cons_succ, List.getD_cons_zero, List.getD_cons_succ, abin, aint, aun, isShift, Option.map_some, Option.bind_some, List.map_cons, List.map_nil, Hp.n_withLow, Hp.n_push, Hp.n_set, Hp.low_withLow, Hp.low_push, Hp.low_set, Hp.get_push, Hp.get_set, Hp.get_withLow, readVar, readCell, readCells, writeCells, cut, fillA, Bool.false_eq_true, if_false, if_true, reduceIte, List.getElem?_cons_zero, List.getElem?_cons_succ, Nat.zero_add, Nat.add_zero, Nat.reduceAdd, Nat.reduceSub, Nat.reduceLT, Nat.reduceLeDiff, Nat.reduceEqDiff, List.length_cons, List.length_nil, List.take_succ_cons, List.take_zero, List.drop_zero, List.drop_succ_cons, List.cons_append, List.nil_append, List.append_nil, DoneK, resAll, resOne, AV.under, AV.unders, and_true, true_and, and_self, or_true, true_or, cond_true, cond_false, Nat.le_refl, Nat.add_eq_left, Nat.left_eq_add, Nat.add_right_cancel_iff, Nat.add_left_cancel_iff, el, e3, e5, hlen, l1, tmset_self, tmset_ne, List.length_set, Nat.reduceBEq, Nat.reduceLT, *]) | (refine GuardK_split (fun hb => ?_) (fun hb => ?_)) | (refine CondK_split (fun hb => ?_) (fun hb => ?_)) | (refine CodeK_regionD _ ?_) | (refine DGuardK_split (fun hb => ?_) (fun hb => ?_))
  refine CodeK_loop (InvD3 h h' obs R w) R.length ?_ ?_
  · exact ⟨rfl, ⟨by simp only [List.length_set, el], by simp only [tmset_self, tmset_ne, List.length_set, Nat.reduceBEq, Nat.reduceLT, el, e3], C.rows, C.wr, C.keep, C.nn⟩, 0, by omega, by omega, by simp only [tmset_self, tmset_ne, List.length_set, Nat.reduceBEq, Nat.reduceLT, el]; rfl⟩
  clear C el e3 hlen l1 e5 I
  intro n tm hx I
  obtain ⟨i3, hn, hi, e7⟩ := I.st
  obtain rfl := I.heap
  have C := I.com
  have el := C.len
  have e3 := C.t3
  have hlen := C.wr.len
  by_cases hlt : i3 < R.length
  case neg =>
    have hiR : i3 = R.length := by omega
    subst hiR
    have l1 : decide ((R.length : Int) < (R.length : Int)) = false := by simp
    repeat' first | (simp only [op_lenS, lenSV_str, op_lenV, lenV_slice, op_toInt, toIntV_int, op_iaddrS, RetK_inv, RetK_inv_exit, RetK_inv_ret, Nat.add_assoc, Nat.reduceEqDiff, Nat.reduceBEq, Nat.reduceBNe, Nat.le_min, Nat.le_add_right, Nat.min_self, Int.reduceBEq, Int.reduceBNe, Int.reduceLT, Int.reduceLE, Int.reduceEq, beq_self_eq_true, bne_self_eq_false, Bool.not_true, Bool.not_false, decide_true, decide_false, decide_eq_true_eq, Bool.and_eq_true, List.mapM_cons, List.mapM_nil, Option.bind_eq_bind, Option.pure_def, aeqK_agg, aeqK_scal, leavesK_nil, leavesK_cons, leafK_i, leafK_b, leafK_s, DrawK_nil, DrawK_cons, DrawK_guard, DResK_some, DGuardK_tt, DGuardK_ff, DGuardK_tf, DGuardK_ft, DGuardK_u, kept_load, Kept, KeptOne, closeOp, CO.quiet, CO.reads, CodeK_seq, CodeK_region, CodeK_skip, CodeK_ret, CodeK_exit, CodeK_cond, CodeK_block, CondK_true, CondK_false, RunK_cons, RunK_nil, RunK_guard, GuardK_tt, GuardK_ff, GuardK_tf, GuardK_ft, GuardK_u, ResK_some, RetK_nil, RetK_seq, RetK_seq_exit, RetK_seq_ret, RetK_block, RetK_block_ret, RetK_block_exit, RetK_block_exit_ne, op_mv, op_un, op_bin, op_load, loadV_ptr, op_faddr, faddrV_ptr, op_pick, pickV_true, pickV_false, pickV_bool, pickV_same, op_box, boxV_agg, op_call, op_build, op_ext, op_alloc, op_store, storeV_ptr, List.all_cons, List.all_nil, AV.one, AV.cells, Bool.and_self, Bool.and_true, Bool.true_and, put, CA.ev, List.set_cons_zero, List.set_cons_succ, List.getD_cons_zero, List.getD_cons_succ, abin, aint, aun, isShift, Option.map_some, Option.bind_some, List.map_cons, List.map_nil, Hp.n_withLow, Hp.n_push, Hp.n_set, Hp.low_withLow, Hp.low_push, Hp.low_set, Hp.get_push, Hp.get_set, Hp.get_withLow, readVar, readCell, readCells, writeCells, cut, fillA, Bool.false_eq_true, if_false, if_true, reduceIte, List.getElem?_cons_zero, List.getElem?_cons_succ, Nat.zero_add, Nat.add_zero, Nat.reduceAdd, Nat.reduceSub, Nat.reduceLT, Nat.reduceLeDiff, Nat.reduceEqDiff, List.length_cons, List.length_nil, List.take_succ_cons, List.take_zero, List.drop_zero, List.drop_succ_cons, List.cons_append, List.nil_append, List.append_nil, DoneK, resAll, resOne, AV.under, AV.unders, and_true, true_and, and_self, or_true, true_or, cond_true, cond_false, Nat.le_refl, Nat.add_eq_left, Nat.left_eq_add, Nat.add_right_cancel_iff, Nat.add_left_cancel_iff, el, e3, e7, hlen, l1, Option.some.injEq, tmset_self, tmset_ne, List.length_set, Nat.reduceBEq, Nat.reduceLT, *]) | (refine GuardK_split (fun hb => ?_) (fun hb => ?_)) | (refine CondK_split (fun hb => ?_) (fun hb => ?_)) | (refine CodeK_regionD _ ?_) | (refine DGuardK_split (fun hb => ?_) (fun hb => ?_))
    refine ⟨_, rfl, ?_⟩
    rw [settle_fst]
    refine ⟨rfl, fun b q1 q2 => ?_⟩
    unfold Fs.settle
    split
    · rfl
    · simp only [Hp.get_withLow]; exact C.keep b q1 q2
  case pos =>
    have l1 : decide ((i3 : Int) < (R.length : Int)) = true := by simp; omega
    repeat' first | (simp only [op_lenS, lenSV_str, op_lenV, lenV_slice, op_toInt, toIntV_int, op_iaddrS, RetK_inv, RetK_inv_exit, RetK_inv_ret, Nat.add_assoc, Nat.reduceEqDiff, Nat.reduceBEq, Nat.reduceBNe, Nat.le_min, Nat.le_add_right, Nat.min_self, Int.reduceBEq, Int.reduceBNe, Int.reduceLT, Int.reduceLE, Int.reduceEq, beq_self_eq_true, bne_self_eq_false, Bool.not_true, Bool.not_false, decide_true, decide_false, decide_eq_true_eq, Bool.and_eq_true, List.mapM_cons, List.mapM_nil, Option.bind_eq_bind, Option.pure_def, aeqK_agg, aeqK_scal, leavesK_nil, leavesK_cons, leafK_i, leafK_b, leafK_s, DrawK_nil, DrawK_cons, DrawK_guard, DResK_some, DGuardK_tt, DGuardK_ff, DGuardK_tf, DGuardK_ft, DGuardK_u, kept_load, Kept, KeptOne, closeOp, CO.quiet, CO.reads, CodeK_seq, CodeK_region, CodeK_skip, CodeK_ret, CodeK_exit, CodeK_cond, CodeK_block, CondK_true, CondK_false, RunK_cons, RunK_nil, RunK_guard, GuardK_tt, GuardK_ff, GuardK_tf, GuardK_ft, GuardK_u, ResK_some, RetK_nil, RetK_seq, RetK_seq_exit, RetK_seq_ret, RetK_block, RetK_block_ret, RetK_block_exit, RetK_block_exit_ne, op_mv, op_un, op_bin, op_load, loadV_ptr, op_faddr, faddrV_ptr, op_pick, pickV_true, pickV_false, pickV_bool, pickV_same, op_box, boxV_agg, op_call, op_build, op_ext, op_alloc, op_store, storeV_ptr, List.all_cons, List.all_nil, AV.one, AV.cells, Bool.and_self, Bool.and_true, Bool.true_and, put, CA.ev, List.set_cons_zero, List.set_cons_succ, List.getD_cons_zero, List.getD_cons_succ, abin, aint, aun, isShift, Option.map_some, Option.bind_some, List.map_cons, List.map_nil, Hp.n_withLow, Hp.n_push, Hp.n_set, Hp.low_withLow, Hp.low_push, Hp.low_set, Hp.get_push, Hp.get_set, Hp.get_withLow, readVar, readCell, readCells, writeCells, cut, fillA, Bool.false_eq_true, if_false, if_true, reduceIte, List.getElem?_cons_zero, List.getElem?_cons_succ, Nat.zero_add, Nat.add_zero, Nat.reduceAdd, Nat.reduceSub, Nat.reduceLT, Nat.reduceLeDiff, Nat.reduceEqDiff, List.length_cons, List.length_nil, List.take_succ_cons, List.take_zero, List.drop_zero, List.drop_succ_cons, List.cons_append, List.nil_append, List.append_nil, DoneK, resAll, resOne, AV.under, AV.unders, and_true, true_and, and_self, or_true, true_or, cond_true, cond_false, Nat.le_refl, Nat.add_eq_left, Nat.left_eq_add, Nat.add_right_cancel_iff, Nat.add_left_cancel_iff, el, e3, e7, hlen, l1, tmset_self, tmset_ne, List.length_set, Nat.reduceBEq, Nat.reduceLT, *]) | (refine GuardK_split (fun hb => ?_) (fun hb => ?_)) | (refine CondK_split (fun hb => ?_) (fun hb => ?_)) | (refine CodeK_regionD _ ?_) | (refine DGuardK_split (fun hb => ?_) (fun hb => ?_))
    have gx := List.getElem?_eq_getElem hlt
    generalize R[i3]'hlt = x at gx
    obtain ⟨ob, hob, hrf⟩ := C.rows i3 x gx
    obtain ⟨a, c, rfl, hcm, hcase⟩ := hrf.full
    rw [maxLen_eq] at hcm
    obtain ⟨bA, ia, gA, hbA⟩ := C.wr.at gx
    have hlen2 : ∀ hy, lenV (.slice a c (.exact c)) hy = some (.int .i64 (c : Int), hy) := fun _ => rfl
    refine CodeK_loop (InvE3 h hx obs R w i3 c) c ?_ ?_
    · exact ⟨rfl, ⟨by simp only [List.length_set, el], by simp only [tmset_self, tmset_ne, List.length_set, Nat.reduceBEq, Nat.reduceLT, el, e3], C.rows, C.wr, C.keep, C.nn⟩, by simp only [tmset_self, tmset_ne, List.length_set, Nat.reduceBEq, Nat.reduceLT, el, e7], 0, by omega, by omega, by simp only [tmset_self, tmset_ne, List.length_set, Nat.reduceBEq, Nat.reduceLT, el]; rfl⟩
    clear C el e3 hlen l1 e7 I
    intro n2 tm h'' I
    obtain ⟨k, hn2, hk, e8⟩ := I.st
    obtain rfl := I.heap
    have C := I.com
    have el := C.len
    have e3 := C.t3
    have e7 := I.t7
    by_cases hltk : k < c
    case pos =>
      have l2 : decide ((k : Int) < (c : Int)) = true := by simp; omega
      rcases hcase with ⟨_, h0⟩ | ⟨b, cs, rfl, rfl, g3, g4, g5⟩
      · omega
      have ib : ∀ hy : AH, iaddrV 1 (.slice (some (b, 0)) c (.exact c)) (.int .i64 (k : Int)) hy = some (.ptr (some (b, k)), hy) := fun hy => by rw [iaddrV_nat hltk, Nat.mul_one, Nat.zero_add]
      have w1 : IntKind.wrap .i64 ((k : Int) + 1) = ((k + 1 : Nat) : Int) := by rw [wrap_i64 (by omega) (by omega)]; omega
      have gk := hdone i3 hlt (k + 1) b cs hob g3 k (by omega) (by omega)
      repeat' first | (simp only [op_lenS, lenSV_str, op_lenV, lenV_slice, op_toInt, toIntV_int, op_iaddrS, RetK_inv, RetK_inv_exit, RetK_inv_ret, Nat.add_assoc, Nat.reduceEqDiff, Nat.reduceBEq, Nat.reduceBNe, Nat.le_min, Nat.le_add_right, Nat.min_self, Int.reduceBEq, Int.reduceBNe, Int.reduceLT, Int.reduceLE, Int.reduceEq, beq_self_eq_true, bne_self_eq_false, Bool.not_true, Bool.not_false, decide_true, decide_false, decide_eq_true_eq, Bool.and_eq_true, List.mapM_cons, List.mapM_nil, Option.bind_eq_bind, Option.pure_def, aeqK_agg, aeqK_scal, leavesK_nil, leavesK_cons, leafK_i, leafK_b, leafK_s, DrawK_nil, DrawK_cons, DrawK_guard, DResK_some, DGuardK_tt, DGuardK_ff, DGuardK_tf, DGuardK_ft, DGuardK_u, kept_load, Kept, KeptOne, closeOp, CO.quiet, CO.reads, CodeK_seq, CodeK_region, CodeK_skip, CodeK_ret, CodeK_exit, CodeK_cond, CodeK_block, CondK_true, CondK_false, RunK_cons, RunK_nil, RunK_guard, GuardK_tt, GuardK_ff, GuardK_tf, GuardK_ft, GuardK_u, ResK_some, RetK_nil, RetK_seq, RetK_seq_exit, RetK_seq_ret, RetK_block, RetK_block_ret, RetK_block_exit, RetK_block_exit_ne, op_mv, op_un, op_bin, op_load, loadV_ptr, op_faddr, faddrV_ptr, op_pick, pickV_true, pickV_false, pickV_bool, pickV_same, op_box, boxV_agg, op_call, op_build, op_ext, op_alloc, op_store, storeV_ptr, List.all_cons, List.all_nil, AV.one, AV.cells, Bool.and_self, Bool.and_true, Bool.true_and, put, CA.ev, List.set_cons_zero, List.set_cons_succ, List.getD_cons_zero, List.getD_cons_succ, abin, aint, aun, isShift, Option.map_some, Option.bind_some, List.map_cons, List.map_nil, Hp.n_withLow, Hp.n_push, Hp.n_set, Hp.low_withLow, Hp.low_push, Hp.low_set, Hp.get_push, Hp.get_set, Hp.get_withLow, readVar, readCell, readCells, writeCells, cut, fillA, Bool.false_eq_true, if_false, if_true, reduceIte, List.getElem?_cons_zero, List.getElem?_cons_succ, Nat.zero_add, Nat.add_zero, Nat.reduceAdd, Nat.reduceSub, Nat.reduceLT, Nat.reduceLeDiff, Nat.reduceEqDiff, List.length_cons, List.length_nil, List.take_succ_cons, List.take_zero, List.drop_zero, List.drop_succ_cons, List.cons_append, List.nil_append, List.append_nil, DoneK, resAll, resOne, AV.under, AV.unders, and_true, true_and, and_self, or_true, true_or, cond_true, cond_false, Nat.le_refl, Nat.add_eq_left, Nat.left_eq_add, Nat.add_right_cancel_iff, Nat.add_left_cancel_iff, el, e3, e7, e8, ia, gA, gx, hlen2, l2, hmk, ib, g3, gk, bne_self_eq_false, w1, tmset_self, tmset_ne, List.length_set, Nat.reduceBEq, Nat.reduceLT, *]) | (refine GuardK_split (fun hb => ?_) (fun hb => ?_)) | (refine CondK_split (fun hb => ?_) (fun hb => ?_)) | (refine CodeK_regionD _ ?_) | (refine DGuardK_split (fun hb => ?_) (fun hb => ?_))
      exact ⟨c - (k + 1), by omega, rfl, ⟨by simp only [List.length_set, el], by simp only [tmset_self, tmset_ne, List.length_set, Nat.reduceBEq, Nat.reduceLT, el, e3], C.rows, C.wr, C.keep, C.nn⟩, by simp only [tmset_self, tmset_ne, List.length_set, Nat.reduceBEq, Nat.reduceLT, el, e7], k + 1, rfl, by omega, by simp only [tmset_self, tmset_ne, List.length_set, Nat.reduceBEq, Nat.reduceLT, el]⟩
    case neg =>
      have hkc : k = c := by omega
      subst hkc
      have l2 : decide ((k : Int) < (k : Int)) = false := by simp
      have w1 : IntKind.wrap .i64 ((i3 : Int) + 1) = ((i3 + 1 : Nat) : Int) := by rw [wrap_i64 (by omega) (by omega)]; omega
      repeat' first | (simp only [op_lenS, lenSV_str, op_lenV, lenV_slice, op_toInt, toIntV_int, op_iaddrS, RetK_inv, RetK_inv_exit, RetK_inv_ret, Nat.add_assoc, Nat.reduceEqDiff, Nat.reduceBEq, Nat.reduceBNe, Nat.le_min, Nat.le_add_right, Nat.min_self, Int.reduceBEq, Int.reduceBNe, Int.reduceLT, Int.reduceLE, Int.reduceEq, beq_self_eq_true, bne_self_eq_false, Bool.not_true, Bool.not_false, decide_true, decide_false, decide_eq_true_eq, Bool.and_eq_true, List.mapM_cons, List.mapM_nil, Option.bind_eq_bind, Option.pure_def, aeqK_agg, aeqK_scal, leavesK_nil, leavesK_cons, leafK_i, leafK_b, leafK_s, DrawK_nil, DrawK_cons, DrawK_guard, DResK_some, DGuardK_tt, DGuardK_ff, DGuardK_tf, DGuardK_ft, DGuardK_u, kept_load, Kept, KeptOne, closeOp, CO.quiet, CO.reads, CodeK_seq, CodeK_region, CodeK_skip, CodeK_ret, CodeK_exit, CodeK_cond, CodeK_block, CondK_true, CondK_false, RunK_cons, RunK_nil, RunK_guard, GuardK_tt, GuardK_ff, GuardK_tf, GuardK_ft, GuardK_u, ResK_some, RetK_nil, RetK_seq, RetK_seq_exit, RetK_seq_ret, RetK_block, RetK_block_ret, RetK_block_exit, RetK_block_exit_ne, op_mv, op_un, op_bin, op_load, loadV_ptr, op_faddr, faddrV_ptr, op_pick, pickV_true, pickV_false, pickV_bool, pickV_same, op_box, boxV_agg, op_call, op_build, op_ext, op_alloc, op_store, storeV_ptr, List.all_cons, List.all_nil, AV.one, AV.cells, Bool.and_self, Bool.and_true, Bool.true_and, put, CA.ev, List.set_cons_zero, List.set_cons_succ, List.getD_cons_zero, List.getD_cons_succ, abin, aint, aun, isShift, Option.map_some, Option.bind_some, List.map_cons, List.map_nil, Hp.n_withLow, Hp.n_push, Hp.n_set, Hp.low_withLow, Hp.low_push, Hp.low_set, Hp.get_push, Hp.get_set, Hp.get_withLow, readVar, readCell, readCells, writeCells, cut, fillA, Bool.false_eq_true, if_false, if_true, reduceIte, List.getElem?_cons_zero, List.getElem?_cons_succ, Nat.zero_add, Nat.add_zero, Nat.reduceAdd, Nat.reduceSub, Nat.reduceLT, Nat.reduceLeDiff, Nat.reduceEqDiff, List.length_cons, List.length_nil, List.take_succ_cons, List.take_zero, List.drop_zero, List.drop_succ_cons, List.cons_append, List.nil_append, List.append_nil, DoneK, resAll, resOne, AV.under, AV.unders, and_true, true_and, and_self, or_true, true_or, cond_true, cond_false, Nat.le_refl, Nat.add_eq_left, Nat.left_eq_add, Nat.add_right_cancel_iff, Nat.add_left_cancel_iff, el, e3, e7, e8, ia, gA, gx, hlen2, l2, w1, tmset_self, tmset_ne, List.length_set, Nat.reduceBEq, Nat.reduceLT, *]) | (refine GuardK_split (fun hb => ?_) (fun hb => ?_)) | (refine CondK_split (fun hb => ?_) (fun hb => ?_)) | (refine CodeK_regionD _ ?_) | (refine DGuardK_split (fun hb => ?_) (fun hb => ?_))
      exact ⟨R.length - (i3 + 1), by omega, rfl, ⟨by simp only [List.length_set, el], by simp only [tmset_self, tmset_ne, List.length_set, Nat.reduceBEq, Nat.reduceLT, el, e3], C.rows, C.wr, C.keep, C.nn⟩, i3 + 1, rfl, by omega, by simp only [tmset_self, tmset_ne, List.length_set, Nat.reduceBEq, Nat.reduceLT, el]⟩
end Go.Proofs.Po
