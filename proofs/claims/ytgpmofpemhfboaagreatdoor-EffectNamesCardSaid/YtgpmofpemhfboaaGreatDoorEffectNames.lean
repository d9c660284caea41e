/- The closed law EffectNames answers true over the variables that its row lists: run once in the kernel on the abstract machine of the Fs texts, whose soundness is proved there; then its tied card. -/
import Derived.Test.YtgpmofpemhfboaaGreatDoorCards
import Derived.Test.YtgpmofpemhfboaaGreatDoorTie
import Derived.WalkKit
import Derived.ProofKit
import Derived.OpenShut
import Derived.Lay
import Derived.SevenTiedAt
import Derived.Test.YtgpmofpemhfboaaGreatDoorFsLaid
import Derived.Test.YtgpmofpemhfboaaGreatDoorSeatRep
namespace Go.Proofs.YtgpmofpemhfboaaGreatDoor.effectNames
open Go.ChangeShapes Go.WideShapes Go.ChangeAt Go.RowKit
set_option linter.unusedVariables false

theorem own : ownKnob Tryz.prog.godebug = none := by kernel_rfl
theorem mixed : Tryz.prog.follows .mixedOrders = true := by kernel_rfl
set_option maxRecDepth 100000 in
theorem ran (m : Int) : ((Go.Fs.absLaid Tryz.prog 40 Rows.effectNamesRow.laid (Go.Fs.start Tryz.prog.globals.size)).bind fun h => (Go.Fs.runQ suits.orcR (Go.Fs.tbl Tryz.prog) 120 4 [] (h.set 2 (.cells [.int .i64 m] true))).map Prod.fst) = some (.bool true) := by kernel_rfl
theorem walk (w : World) (hw : laidMet Tryz.prog Rows.effectNamesRow.laid w) (hsh : w.ShapedOpen Tryz.prog) : Calls Tryz.prog 4 #[] w fun e w' => e = .returned (.bool true) ∧ Below w.heap.size w w' := by
  obtain ⟨m, hm⟩ := Tryz.laysIndex.s1_3 w hsh
  exact Go.Fs.calls_laidM mixed suits.goodR (g := 2) (by kernel_rfl) (of_decide_eq_true (by kernel_rfl)) ran hw hm

set_option maxRecDepth 100000 in
theorem lifted (os : Os) (started : os.Started) (H : Type) (enc : TypeId × Value → H) :
    ReturnsInHanded {} Tryz.checked os 4 .any (fun w args => (Rows.effectNamesSpec.pre enc Tryz.prog Tryz.f4 [] false w args ∧ laidMetH Tryz.prog Rows.effectNamesRow.laid w) ∧ sizedMet enc Tryz.prog Tryz.f4 (OpenSpec.ofChange Rows.effectNamesSpec) false w args)
      (Rows.effectNamesSpec.post enc Tryz.prog Tryz.f4 false true false false) := by
  refine Go.Fs.returns_shaped (C := Tryz.checked) (X := fun w => laidMetH Tryz.prog Rows.effectNamesRow.laid w) (fun _ _ hh h => h.of_heap hh) own started (by kernel_rfl) Tryz.func4
    (ChangeSpec.witness_shaped (enc := enc) (C := Tryz.checked) (os := os) (X := fun w _ => laidMetH Tryz.prog Rows.effectNamesRow.laid w) false (World.laidAll Tryz.prog os Rows.effectNamesRow.laid) #[] 8 (World.laidAll_os _ _ _)
      (World.shaped_of_ZipB (by kernel_rfl) (by kernel_rfl)) (by kernel_rfl) (by kernel_rfl) (by kernel_rfl)
      (by rw [MakeChecks.laidMetH_plain _ _ _ (by kernel_rfl)]; exact laidMet_laidAll _ (by kernel_rfl) (by kernel_rfl))) ?_
  intro W args ds gs before hW hL hsh
  have hW' := hW
  obtain ⟨p, q, hA0, hV, rfl, _, _⟩ := hW
  have hA : DataW.TrodAll enc Tryz.prog W 0 (fun _ => true) true Tryz.f4.params.toList args.toList ds p := hA0
  rw [Tryz.params4] at hA
  obtain ⟨rfl, rfl, rfl⟩ := trodAll_none hA
  obtain ⟨rfl, rfl⟩ := trodVars_none hV
  clear hA0
  simp only [List.append_nil] at hW'
  have hL2 : laidMet Tryz.prog Rows.effectNamesRow.laid W := by
    have h := hL
    rw [MakeChecks.laidMetH_plain _ _ _ (by kernel_rfl)] at h
    exact h
  refine (walk W hL2 hsh).mono fun e W' ⟨he, hg⟩ => ?_
  subst he
  exact ⟨_, rfl, _, _, _, [], [], [], hW', trodAll_cons_mk (shut_bool Tryz.underlying4 _) trodAll_mk0, rfl, rfl, hg.frame _, fun h => by cases h⟩

theorem over : Rows.effectNamesRow.holds Tryz.pinned (OpenSpec.ofChange Rows.effectNamesSpec) :=
  OpenClaim.holds_of_wide 4 Tryz.f4 rfl rfl rfl rfl rfl rfl rfl ⟨rfl, rfl, rfl, rfl, rfl⟩ rfl rfl rfl rfl rfl (by kernel_rfl) Tryz.func4 (by kernel_rfl)
    (of_decide_eq_true (by kernel_rfl)) (by unfold Func.isWrapper; first | (rw [if_pos (by decide +kernel)]; kernel_rfl) | (rw [if_neg (by decide +kernel)]; exact ⟨rfl, rfl⟩))
    (fun os started H enc _ => lifted os started H enc)

/-- ████ THE STATEMENT ████ -/
theorem proved : Rows.EffectNamesCardSaid :=
  Claim7.holds_tied_plain_at .later [] [.data, .data, .data, .data, .sentinel, .sentinel, .listed, .data, .data, .pinned] true (true, "644f736d5e60ea3a44c74c8f967f006ef709329ddbc1c3c3d78245c8e4c2222a") true over (fun _ h => by cases h) (by kernel_rfl) (fun _ h => by cases h) effectNames_row_tie rfl ⟨rfl, rfl⟩ (by kernel_rfl) rfl
    (fun g fn hf hfn => by
      obtain rfl : g = 4 := Option.some.inj ((show Tryz.prog.funcNamed "gambit/gambitlaw05.EffectNames" = some 4 by kernel_rfl).symm.trans hf) |>.symm
      obtain rfl : fn = Tryz.f4 := (Option.some.inj (Tryz.func4.symm.trans hfn)).symm
      exact ⟨by kernel_rfl, fun j t ht => by
        rw [Tryz.params4] at ht
        simp at ht⟩)
    (by kernel_rfl)
#print axioms proved
end Go.Proofs.YtgpmofpemhfboaaGreatDoor.effectNames
