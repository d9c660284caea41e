/- The closed law EffectCount answers true over the variables that its row lists: by a symbolic walk over the abstract machine of the Fs texts, whose soundness is proved there; then its tied card. -/
import Derived.Test.YtdehfehdaiappaaGreatDoorCards
import Derived.Test.YtdehfehdaiappaaGreatDoorTie
import Derived.WalkKit
import Derived.ProofKit
import Derived.OpenShut
import Derived.Lay
import Derived.SevenTiedAt
import Derived.Test.YtdehfehdaiappaaGreatDoorZdEfLawC
import Derived.Test.YtdehfehdaiappaaGreatDoorZdEfOrc
namespace Go.Proofs.YtdehfehdaiappaaGreatDoor.effectCount
open Go.ChangeShapes Go.WideShapes Go.ChangeAt Go.RowKit
set_option linter.unusedVariables false

theorem own : ownKnob Tryz.prog.godebug = none := by kernel_rfl
theorem mixed : Tryz.prog.follows .mixedOrders = true := by kernel_rfl
noncomputable def h00 : Go.Fs.AH := (Go.Fs.absLaid Tryz.prog 40 Rows.effectCountRow.laid (Go.Fs.start Tryz.prog.globals.size)).getD (Go.Fs.start Tryz.prog.globals.size)
theorem some00 : (Go.Fs.absLaid Tryz.prog 40 Rows.effectCountRow.laid (Go.Fs.start Tryz.prog.globals.size)).isSome = true := by kernel_rfl
theorem e00 : Go.Fs.absLaid Tryz.prog 40 Rows.effectCountRow.laid (Go.Fs.start Tryz.prog.globals.size) = some h00 := Go.Fs.some_getD some00
/-- The heap when the call begins. -/
noncomputable def h0 (m : Int) : Go.Fs.AH := h00.set 3 (.cells [.int .i64 m] true)
theorem ok0 (m : Int) : Go.Fs.heapOk Tryz.prog.globals.size (h0 m) = true := by kernel_rfl
set_option maxRecDepth 100000 in
theorem lives0 (m : Int) : (Go.Fs.runQ suits.orcT (Go.Fs.tbl Tryz.prog) 300 10 [] (h0 m)).map Prod.fst = some (.bool true) := by kernel_rfl
noncomputable abbrev orcL (m : Int) : Go.Fs.Orc := Go.Fs.orcOver Tryz.prog suits.orcT (h0 m) 300 10
theorem goodL (m : Int) : Go.Fs.GoodOrc Tryz.prog (orcL m) := Go.Fs.good_orcOver mixed suits.goodT (ok0 m) (by kernel_rfl)
theorem noneL (m : Int) : ∀ f, f ∈ [14, 8, 40, 41, 42, 43, 44, 45, 46, 47, 76, 77, 78] → orcL m f = none := by
  intro f hf
  simp only [List.mem_cons, List.mem_nil_iff, or_false] at hf
  rcases hf with rfl | rfl | rfl | rfl | rfl | rfl | rfl | rfl | rfl | rfl | rfl | rfl | rfl <;> kernel_rfl
theorem trimsL (m : Int) : Go.Proofs.Ef.Trims (orcL m) := fun a h hl => by
  refine Go.Fs.acall_orc (s := suits.tellTrim) (by kernel_rfl) ?_
  unfold suits.tellTrim
  simp only
  rw [if_pos ⟨by omega, by decide, by decide⟩]
theorem walk (w : World) (hw : laidMet Tryz.prog Rows.effectCountRow.laid w) (hsh : w.ShapedOpen Tryz.prog) : Calls Tryz.prog 4 #[] w fun e w' => e = .returned (.bool true) ∧ Below w.heap.size w w' := by
  obtain ⟨m, hm⟩ := Tryz.laysIndex.s1_3 w hsh
  obtain ⟨h1, hr⟩ := Go.Proofs.Ef.law_spec (orc := orcL m) (h0 := h0 m) (h := h0 m) (by kernel_rfl) (by kernel_rfl)
    (fun w v m' c nm h => by rw [← Go.Proofs.Ef.cntS_eq]; exact Go.Proofs.Ef.fields_spec (by kernel_rfl) (noneL m) (trimsL m) w v m' c 0 0 0 nm h)
    (fun h hg => Go.Fs.acall_over (lives0 m) rfl rfl hg) (Go.Fs.Grown.refl _)
  exact Go.Fs.law_closed mixed (goodL m) (by kernel_rfl) e00 hw (g := 3) (of_decide_eq_true (by kernel_rfl)) hm hr

set_option maxRecDepth 100000 in
theorem lifted (os : Os) (started : os.Started) (H : Type) (enc : TypeId × Value → H) :
    ReturnsInHanded {} Tryz.checked os 4 .any (fun w args => (Rows.effectCountSpec.pre enc Tryz.prog Tryz.f4 [] false w args ∧ laidMetH Tryz.prog Rows.effectCountRow.laid w) ∧ sizedMet enc Tryz.prog Tryz.f4 (OpenSpec.ofChange Rows.effectCountSpec) false w args)
      (Rows.effectCountSpec.post enc Tryz.prog Tryz.f4 false true false false) := by
  refine Go.Fs.returns_shaped (C := Tryz.checked) (X := fun w => laidMetH Tryz.prog Rows.effectCountRow.laid w) (fun _ _ hh h => h.of_heap hh) own started (by kernel_rfl) Tryz.func4
    (ChangeSpec.witness_shaped (enc := enc) (C := Tryz.checked) (os := os) (X := fun w _ => laidMetH Tryz.prog Rows.effectCountRow.laid w) false (World.laidAll Tryz.prog os Rows.effectCountRow.laid) #[] 8 (World.laidAll_os _ _ _)
      (World.shaped_of_ZipB (by kernel_rfl) (by kernel_rfl)) (by kernel_rfl) (by kernel_rfl) (by kernel_rfl)
      (by rw [MakeChecks.laidMetH_plain _ _ _ (by kernel_rfl)]; exact laidMet_laidAll _ (by kernel_rfl) (by kernel_rfl))) ?_
  intro W args ds gs before hW hL hsh
  have hW' := hW
  obtain ⟨p, q, hA0, hV, rfl, _, _⟩ := hW
  have hA : DataW.TrodAll enc Tryz.prog W 0 (fun _ => true) true Tryz.f4.params.toList args.toList ds p := hA0
  rw [Tryz.params4] at hA
  obtain ⟨rfl, rfl, rfl⟩ := trodAll_none hA
  obtain ⟨rfl, rfl⟩ := trodVars_none hV
  clear hA0
  simp only [List.append_nil] at hW'
  have hL2 : laidMet Tryz.prog Rows.effectCountRow.laid W := by
    have h := hL
    rw [MakeChecks.laidMetH_plain _ _ _ (by kernel_rfl)] at h
    exact h
  refine (walk W hL2 hsh).mono fun e W' ⟨he, hg⟩ => ?_
  subst he
  exact ⟨_, rfl, _, _, _, [], [], [], hW', trodAll_cons_mk (shut_bool Tryz.underlying4 _) trodAll_mk0, rfl, rfl, hg.frame _, fun h => by cases h⟩

theorem over : Rows.effectCountRow.holds Tryz.pinned (OpenSpec.ofChange Rows.effectCountSpec) :=
  OpenClaim.holds_of_wide 4 Tryz.f4 rfl rfl rfl rfl rfl rfl rfl ⟨rfl, rfl, rfl, rfl, rfl⟩ rfl rfl rfl rfl rfl (by kernel_rfl) Tryz.func4 (by kernel_rfl)
    (of_decide_eq_true (by kernel_rfl)) (by unfold Func.isWrapper; first | (rw [if_pos (by decide +kernel)]; kernel_rfl) | (rw [if_neg (by decide +kernel)]; exact ⟨rfl, rfl⟩))
    (fun os started H enc _ => lifted os started H enc)

/-- ████ THE STATEMENT ████ -/
theorem proved : Rows.EffectCountCardSaid :=
  Claim7.holds_tied_plain_at .later [] [.data, .data, .data, .data, .sentinel, .sentinel, .listed, .data, .data, .pinned] true (true, "32f7d736994ab35d955e0fe48833ce20fa9b511e41617ac8723cd5db1750029d") true over (fun _ h => by cases h) (by kernel_rfl) (fun _ h => by cases h) effectCount_row_tie rfl ⟨rfl, rfl⟩ (by kernel_rfl) rfl
    (fun g fn hf hfn => by
      obtain rfl : g = 4 := Option.some.inj ((show Tryz.prog.funcNamed "gambit/gambitlaw05.EffectCount" = some 4 by kernel_rfl).symm.trans hf) |>.symm
      obtain rfl : fn = Tryz.f4 := (Option.some.inj (Tryz.func4.symm.trans hfn)).symm
      exact ⟨by kernel_rfl, fun j t ht => by
        rw [Tryz.params4] at ht
        simp at ht⟩)
    (by kernel_rfl)
#print axioms proved
end Go.Proofs.YtdehfehdaiappaaGreatDoor.effectCount
