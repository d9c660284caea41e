/- The law PileOrder returns true at every list, state and numbers; what was handed in reads as it did. -/
import Derived.Test.YtnhkllnggpncfaaRows
import Derived.Test.YtnhkllnggpncfaaPoArg
import Derived.Test.YtnhkllnggpncfaaPoLaw
namespace Go.Proofs.Ytnhkllnggpncfaa.pileOrder
open Go Go.Fs Go.Proofs.Po Go.ChangeShapes

theorem own : ownKnob Try.prog.godebug = none := by kernel_rfl
theorem mixed : Try.prog.follows .mixedOrders = true := by kernel_rfl
theorem laid : laidOutB Try.prog = true := by kernel_rfl

theorem goodNone (P : Program) : GoodOrc P noOrc := fun f g h => by cases h

set_option maxRecDepth 100000 in
theorem lifted (os : Os) (started : os.Started) (H : Type) (enc : TypeId × Value → H) :
    ReturnsInHanded {} Try.checked os 9 .any (Rows.pileOrderSpec.pre6 enc Try.prog Try.f9 Rows.pileOrderRow.domain false) (Rows.pileOrderSpec.post enc Try.prog Try.f9 false true false false) := by
  refine returnsInHanded_of_change (C := Try.checked) own started (by kernel_rfl) Try.func9
    (ChangeSpec.witness6 (enc := enc) (C := Try.checked) false ⟨#[], #[.slice none 0 0, .int .u64 0, .int .i64 0, .int .i64 0, .int .i64 0], []⟩ 8 (by kernel_rfl) (by kernel_rfl) (by kernel_rfl) (by kernel_rfl)) ?_
  intro W base args ds gs before hval hW _ _
  refine law_contract (tb := 4) (opq := fun _ => false) (fuel := 4) mixed (goodNone _) laid (by kernel_rfl) (by kernel_rfl) rfl Try.underlying4 rfl ?_ W base args ds gs before hval hW
  intro W args ds p hA
  rw [Try.params9] at hA ⊢
  obtain ⟨v1, vs1, d1, ds1, p1, q1, _, rfl, _, h1, hA⟩ := trodAll_cons hA
  obtain ⟨v2, vs2, d2, ds2, p2, q2, _, rfl, _, h2, hA⟩ := trodAll_cons hA
  obtain ⟨v3, vs3, d3, ds3, p3, q3, _, rfl, _, h3, hA⟩ := trodAll_cons hA
  obtain ⟨v4, vs4, d4, ds4, p4, q4, _, rfl, _, h4, hA⟩ := trodAll_cons hA
  obtain ⟨v5, vs5, d5, ds5, p5, q5, _, rfl, _, h5, hA⟩ := trodAll_cons hA
  obtain ⟨_, rfl, _⟩ := trodAll_nil hA
  obtain ⟨s, rfl⟩ := u64_shape h2
  obtain ⟨n0, rfl⟩ := int_shape h3
  obtain ⟨hands, rfl⟩ := int_shape h4
  obtain ⟨each, rfl⟩ := int_shape h5
  obtain ⟨v, h', xs, a1, a2, _⟩ := absd_row (f := 2) (row_shape h1) (Fs.start Try.prog.globals.size)
  obtain ⟨h2, hr⟩ := law_spec (orc := noOrc) (fun f _ => rfl) a2 s n0 hands each
  exact ⟨rfl, _, h', h2, by simp only [absArgs, a1, arg_u64 3, arg_int 3, Option.bind_some, Option.map_some], hr⟩

theorem over : Rows.pileOrderRow.holds Try.pinned (OpenSpec.ofChange Rows.pileOrderSpec) :=
  OpenClaim.holds_of_wide 9 Try.f9 rfl rfl rfl rfl rfl rfl rfl ⟨rfl, rfl, rfl, rfl, rfl⟩ rfl rfl rfl rfl rfl (by kernel_rfl) Try.func9 (by kernel_rfl)
    (of_decide_eq_true (by kernel_rfl)) (by unfold Func.isWrapper; first | (rw [if_pos (by decide +kernel)]; kernel_rfl) | (rw [if_neg (by decide +kernel)]; exact ⟨rfl, rfl⟩))
    (fun os started H enc _ => lifted os started H enc)

/-- The statement. -/
theorem proved : Rows.PileOrderSaid := over
#print axioms proved
end Go.Proofs.Ytnhkllnggpncfaa.pileOrder
