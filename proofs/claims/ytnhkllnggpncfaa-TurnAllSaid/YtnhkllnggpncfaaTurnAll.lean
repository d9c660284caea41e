/- The law TurnAll returns true at every turn, player and number of items; what was handed in reads as it did. -/
import Derived.Test.YtnhkllnggpncfaaRows
import Derived.Test.YtnhkllnggpncfaaFsLaw
import Derived.Test.YtnhkllnggpncfaaTurnRef
namespace Go.Proofs.Turn
open Go Go.Fs
set_option linter.unusedSimpArgs false

noncomputable def orcT : Orc := orcPure Try.prog 40 [32]

theorem awake_spec (h : AH) : acall orcT T 32 [] h = some (.bool true, h) := acall_pure (by decide) rfl rfl (by kernel_rfl)

set_option maxRecDepth 100000 in
set_option maxHeartbeats 8000000 in
theorem all_spec (p ph w q who items : Int) (hp : i64 p) (hw : i64 w) (hq : i64 q) (hwho : i64 who) (h : AH) :
    acall orcT T 10 [turnV p ph w q, .int .i64 who, .int .i64 items] h = some (.bool true, h) := by
  refine acall_sym rfl tbl10 ?_
  have b0 := awake_spec
  have b1 := begin_spec (orc := orcT) rfl rfl who hwho
  have b2 := rbegin_spec (orc := orcT) rfl who
  have b3 := played_spec (orc := orcT) rfl rfl rfl rfl p ph w q hp hw hq
  have b4 := rplayed_spec (orc := orcT) rfl rfl rfl p ph w q
  have b5 := struck_spec (orc := orcT) rfl rfl rfl p ph w q hp hw hq
  have b6 := rstruck_spec (orc := orcT) rfl rfl rfl p ph w q
  have b7 := pass_spec (orc := orcT) rfl rfl rfl rfl rfl p ph w q items hp hw hq
  have b8 := rpass_spec (orc := orcT) rfl rfl rfl rfl p ph w q items
  have b9 := check_spec (orc := orcT) rfl rfl p ph w q hp hw hq
  have c1 := rcheck_spec (orc := orcT) rfl p ph w q
  have c2 := word_spec (orc := orcT) rfl rfl rfl rfl p ph w q who hp hw hq hwho
  have c3 := rword_spec (orc := orcT) rfl rfl rfl p ph w q who
  have c4 := slow_spec (orc := orcT) rfl rfl rfl rfl rfl p ph w q who items hp hw hq hwho
  have c5 := rslow_spec (orc := orcT) rfl rfl rfl rfl p ph w q who items
  have c6 := strike_spec (orc := orcT) rfl rfl rfl rfl rfl p ph w q who items hp hw hq hwho
  have c7 := rstrike_spec (orc := orcT) rfl rfl rfl rfl p ph w q who items
  dsimp only [List.length, List.replicate, List.append, List.cons_append, List.nil_append, Nat.reduceAdd, Nat.reduceSub, turnV, beginV, playedV, struckV, passV] at b1 b2 b3 b4 b5 b6 b7 b8 b9 c1 c2 c3 c4 c5 c6 c7 ⊢
  repeat' first
    | (simp only [Nat.add_assoc, Nat.reduceEqDiff, Nat.reduceBEq, Nat.reduceBNe, Nat.le_min, Nat.le_add_right, Nat.min_self, Int.reduceBEq, Int.reduceBNe, Int.reduceLT, Int.reduceLE, Int.reduceEq, beq_self_eq_true, bne_self_eq_false, Bool.not_true, Bool.not_false, decide_true, decide_false, decide_eq_true_eq, Bool.and_eq_true, List.mapM_cons, List.mapM_nil, Option.bind_eq_bind, Option.pure_def, aeqK_agg, aeqK_scal, leavesK_nil, leavesK_cons, leafK_i, leafK_b, leafK_s, DrawK_nil, DrawK_cons, DrawK_guard, DResK_some, DGuardK_tt, DGuardK_ff, DGuardK_tf, DGuardK_ft, DGuardK_u, kept_load, Kept, KeptOne, closeOp, CO.quiet, CO.reads, CodeK_seq, CodeK_region, CodeK_skip, CodeK_ret, CodeK_exit, CodeK_cond, CodeK_block, CondK_true, CondK_false, RunK_cons, RunK_nil, RunK_guard, GuardK_tt, GuardK_ff, GuardK_tf, GuardK_ft, GuardK_u, ResK_some, RetK_nil, RetK_seq, RetK_seq_exit, RetK_seq_ret, RetK_block, RetK_block_ret, RetK_block_exit, RetK_block_exit_ne, op_mv, op_un, op_bin, op_load, loadV_ptr, op_faddr, faddrV_ptr, op_pick, pickV_true, pickV_false, pickV_bool, pickV_same, op_box, boxV_agg, op_call, op_build, op_ext, op_alloc, op_store, storeV_ptr, List.all_cons, List.all_nil, AV.one, AV.cells, Bool.and_self, Bool.and_true, Bool.true_and, put, CA.ev, List.set_cons_zero, List.set_cons_succ, List.getD_cons_zero, List.getD_cons_succ, abin, aint, aun, isShift, Option.map_some, Option.bind_some, List.map_cons, List.map_nil, Hp.n_withLow, Hp.n_push, Hp.n_set, Hp.low_withLow, Hp.low_push, Hp.low_set, Hp.get_push, Hp.get_set, Hp.get_withLow, readVar, readCell, readCells, writeCells, over, cut, fillA, Bool.false_eq_true, if_false, if_true, reduceIte, List.getElem?_cons_zero, List.getElem?_cons_succ, Nat.zero_add, Nat.add_zero, Nat.reduceAdd, Nat.reduceSub, Nat.reduceLT, Nat.reduceLeDiff, Nat.reduceEqDiff, List.length_cons, List.length_nil, List.take_succ_cons, List.take_zero, List.drop_zero, List.drop_succ_cons, List.cons_append, List.nil_append, List.append_nil, DoneK, resAll, resOne, AV.under, AV.unders, and_true, true_and, and_self, or_true, true_or, cond_true, cond_false, Nat.le_refl, Nat.add_eq_left, Nat.left_eq_add, Nat.add_right_cancel_iff, Nat.add_left_cancel_iff, b0, b1, b2, b3, b4, b5, b6, b7, b8, b9, c1, c2, c3, c4, c5, c6, c7, *])
    | (refine GuardK_split (fun hb => ?_) (fun hb => ?_))
    | (refine CondK_split (fun hb => ?_) (fun hb => ?_))
    | (refine CodeK_regionD _ ?_)
    | (refine DGuardK_split (fun hb => ?_) (fun hb => ?_))

theorem turn_shape {H : Type} {enc : TypeId × Value → H} {W : World} {v : Value} {d : DataW H} {ps : List MemPlace} (h : DataW.Trod enc Try.prog W 0 (fun _ => true) true 61 v d ps) :
    ∃ p ph w q, d = .agg [.lit (.int .i64 p), .lit (.int .u8 ph), .lit (.int .i64 w), .lit (.int .i64 q)] ∧ i64 p ∧ i64 w ∧ i64 q ∧ 0 ≤ ph ∧ ph ≤ 255 := by
  obtain ⟨fuel, h⟩ := h
  obtain ⟨f, xs, rfl, hx⟩ := trod_struct Try.underlying61 h
  simp only [List.mapM_cons, List.mapM_nil, Option.bind_eq_bind, Option.bind_eq_some_iff, Option.pure_def, Option.some.injEq] at hx
  obtain ⟨a, ha, b', ⟨b, hb, c', ⟨c, hc, d', ⟨d, hd, _, rfl, rfl⟩, rfl⟩, rfl⟩, rfl⟩ := hx
  obtain ⟨p, h1, h2⟩ := trod_int (d := a.1) (ps := a.2) Try.underlying3 ha
  obtain ⟨ph, h3, h4⟩ := trod_int (d := b.1) (ps := b.2) Try.underlying59 hb
  obtain ⟨w, h5, h6⟩ := trod_int (d := c.1) (ps := c.2) Try.underlying3 hc
  obtain ⟨q, h7, h8⟩ := trod_int (d := d.1) (ps := d.2) Try.underlying3 hd
  exact ⟨p, ph, w, q, by simp [h1, h3, h5, h7], h2, h6, h8, h4.1, h4.2⟩

theorem int_shape {H : Type} {enc : TypeId × Value → H} {W : World} {v : Value} {d : DataW H} {ps : List MemPlace} (h : DataW.Trod enc Try.prog W 0 (fun _ => true) true 3 v d ps) :
    ∃ n, d = .lit (.int .i64 n) ∧ i64 n := by
  obtain ⟨fuel, h⟩ := h
  obtain ⟨n, h1, h2⟩ := trod_int Try.underlying3 h
  exact ⟨n, h1, h2⟩
end Go.Proofs.Turn
namespace Go.Proofs.Ytnhkllnggpncfaa.turnAll
open Go Go.Fs Go.Proofs.Turn Go.ChangeShapes

theorem own : ownKnob Try.prog.godebug = none := by kernel_rfl
theorem mixed : Try.prog.follows .mixedOrders = true := by kernel_rfl
theorem laid : laidOutB Try.prog = true := by kernel_rfl

theorem absd {H : Type} (p ph w q who items : Int) : absArgs (H := H) Try.prog (fun _ => false) 5 [61, 3, 3] [.agg [.lit (.int .i64 p), .lit (.int .u8 ph), .lit (.int .i64 w), .lit (.int .i64 q)], .lit (.int .i64 who), .lit (.int .i64 items)] (Fs.start Try.prog.globals.size) =
    some ([turnV p ph w q, .int .i64 who, .int .i64 items], Fs.start Try.prog.globals.size) := by kernel_rfl

set_option maxRecDepth 100000 in
theorem lifted (os : Os) (started : os.Started) (H : Type) (enc : TypeId × Value → H) :
    ReturnsInHanded {} Try.checked os 10 .any (Rows.turnAllSpec.pre6 enc Try.prog Try.f10 Rows.turnAllRow.domain false) (Rows.turnAllSpec.post enc Try.prog Try.f10 false true false false) := by
  refine returnsInHanded_of_change (C := Try.checked) own started (by kernel_rfl) Try.func10
    (ChangeSpec.witness6 (enc := enc) (C := Try.checked) false ⟨#[], #[.agg #[.int .i64 0, .int .u8 0, .int .i64 0, .int .i64 0], .int .i64 0, .int .i64 0], []⟩ 8 (by kernel_rfl) (by kernel_rfl) (by kernel_rfl) (by kernel_rfl)) ?_
  intro W base args ds gs before hval hW _ _
  refine law_contract (tb := 4) (opq := fun _ => false) (fuel := 5) mixed (good_orcPure mixed 40 [32]) laid (by kernel_rfl) rfl Try.underlying4 rfl ?_ W base args ds gs before hval hW
  intro W args ds p hA
  rw [Try.params10] at hA ⊢
  obtain ⟨v1, v2, v3, d1, d2, d3, p1, p2, p3, _, rfl, _, h1, h2, h3⟩ := trodAll_three hA
  obtain ⟨p, ph, w, q, rfl, hp, hw, hq, _⟩ := turn_shape h1
  obtain ⟨who, rfl, hwho⟩ := int_shape h2
  obtain ⟨items, rfl, _⟩ := int_shape h3
  exact ⟨rfl, _, _, _, absd p ph w q who items, all_spec p ph w q who items hp hw hq hwho _⟩

theorem over : Rows.turnAllRow.holds Try.pinned (OpenSpec.ofChange Rows.turnAllSpec) :=
  OpenClaim.holds_of_wide 10 Try.f10 rfl rfl rfl rfl rfl rfl rfl ⟨rfl, rfl, rfl, rfl, rfl⟩ rfl rfl rfl rfl rfl (by kernel_rfl) Try.func10 (by kernel_rfl)
    (of_decide_eq_true (by kernel_rfl)) (by unfold Func.isWrapper; first | (rw [if_pos (by decide +kernel)]; kernel_rfl) | (rw [if_neg (by decide +kernel)]; exact ⟨rfl, rfl⟩))
    (fun os started H enc _ => lifted os started H enc)

/-- The statement. -/
theorem proved : Rows.TurnAllSaid := over
#print axioms proved
end Go.Proofs.Ytnhkllnggpncfaa.turnAll
