/- The law PileTakes returns true at every list and numbers; what was handed in reads as it did. -/
import Derived.Test.YtnhkllnggpncfaaRows
import Derived.Test.YtnhkllnggpncfaaPoArg
import Derived.Test.YtnhkllnggpncfaaPsTakes
import Derived.SizedLaws
namespace Go.Proofs.Ytnhkllnggpncfaa.pileTakes
open Go Go.Fs Go.Proofs.Po Go.ChangeShapes

theorem own : ownKnob Try.prog.godebug = none := by kernel_rfl
theorem mixed : Try.prog.follows .mixedOrders = true := by kernel_rfl
theorem laid : laidOutB Try.prog = true := by kernel_rfl

/-- What is told ahead: whether lists lie apart. -/
def orcA : Orc := fun f => if f = 21 then some (apartOrc 1) else none
theorem goodA : GoodOrc Try.prog orcA := by
  intro f s hs args h v h' hv
  unfold orcA at hs
  split at hs
  · rename_i hf
    subst hf
    cases hs
    exact good_apart mixed (by omega) apart_run (by kernel_rfl) hv
  · cases hs

theorem bytes3 : Try.prog.bytesOf 3 = 8 := by kernel_rfl

set_option maxRecDepth 100000 in
theorem lifted (os : Os) (started : os.Started) (H : Type) (enc : TypeId × Value → H) :
    ReturnsInHanded {} Try.checked os 7 .any (Rows.pileTakesSpec.pre6 enc Try.prog Try.f7 Rows.pileTakesRow.domain false) (Rows.pileTakesSpec.post enc Try.prog Try.f7 false true false false) := by
  refine returnsInHanded_of_change_sized (C := Try.checked) own started (by kernel_rfl) Try.func7
    (ChangeSpec.witness6 (enc := enc) (C := Try.checked) false ⟨#[], #[.slice none 0 0, .int .i64 0, .int .i64 0, .int .i64 0, .int .i64 0], []⟩ 8 (by kernel_rfl) (by kernel_rfl) (by kernel_rfl) (by kernel_rfl)) ?_
  intro W base args ds gs before hval hW _ hsz _
  have hW' := hW
  obtain ⟨p, q, hA, hV, he, _, _⟩ := hW'
  have hA' := hA
  rw [show Try.f7.params.toList = [22, 3, 3, 3, 3] by rw [Try.params7]] at hA'
  obtain ⟨v1, vs1, d1, ds1, p1, q1, _, rfl, _, h1, hA'⟩ := trodAll_cons hA'
  obtain ⟨v2, vs2, d2, ds2, p2, q2, _, rfl, _, h2, hA'⟩ := trodAll_cons hA'
  obtain ⟨v3, vs3, d3, ds3, p3, q3, _, rfl, _, h3, hA'⟩ := trodAll_cons hA'
  obtain ⟨v4, vs4, d4, ds4, p4, q4, _, rfl, _, h4, hA'⟩ := trodAll_cons hA'
  obtain ⟨v5, vs5, d5, ds5, p5, q5, _, rfl, _, h5, hA'⟩ := trodAll_cons hA'
  obtain ⟨_, rfl, _⟩ := trodAll_nil hA'
  obtain ⟨x, rfl⟩ := int_shape h2
  obtain ⟨n0, rfl⟩ := int_shape h3
  obtain ⟨hands, rfl⟩ := int_shape h4
  obtain ⟨each, rfl⟩ := int_shape h5
  rw [show Try.f7.params.toList = [22, 3, 3, 3, 3] by rw [Try.params7]] at hsz
  have hall := List.all_eq_true.1 hsz
  obtain ⟨v, h', xs, a1, a2, a3⟩ := absd_row (f := 2) (row_shape h1) (Fs.start Try.prog.globals.size)
  have hl : (xs.length + 2) * 8 ≤ 140737488355328 := by
    have e : reachBytes = 140737488351232 := by decide
    rcases a3 with ⟨rfl, rfl⟩ | ⟨ys, rfl⟩
    · simp
    · have := hall ((xs.length + ys.length) * 8) (DataW.weights_mem_each (j := 0) rfl rfl _ (by
        show _ ∈ DataW.weights Try.prog 22 _
        simp [DataW.weights, Try.underlying22, bytes3]))
      simp only [decide_eq_true_eq] at this
      omega
  have hr := takes_spec (orc := orcA) (fun f hf => by
    unfold orcA
    rw [if_neg]
    intro e; subst e
    revert hf; decide) rfl a2 hl x n0 hands each
  obtain ⟨h2', hr⟩ := hr
  have ha : absArgs Try.prog (fun _ => false) 4 Try.f7.params.toList [d1, .lit (.int .i64 x), .lit (.int .i64 n0), .lit (.int .i64 hands), .lit (.int .i64 each)] (Fs.start Try.prog.globals.size) = some ([v, .int .i64 x, .int .i64 n0, .int .i64 hands, .int .i64 each], h') := by
    rw [show Try.f7.params.toList = [22, 3, 3, 3, 3] by rw [Try.params7]]
    simp only [absArgs, a1, arg_int 3, Option.bind_some, Option.map_some]
  refine (law_walk mixed goodA (by kernel_rfl) hA (fun j t v hj hv => hval j t v (by simpa using hj) (by simpa using hv)) ha hr).mono fun e W' ⟨he, hB⟩ => ?_
  exact ⟨_, he, law_post (tb := 4) laid (by kernel_rfl) rfl Try.underlying4 rfl rfl hW hB⟩

theorem over : Rows.pileTakesRow.holds Try.pinned (OpenSpec.ofChange Rows.pileTakesSpec) :=
  OpenClaim.holds_of_wide 7 Try.f7 rfl rfl rfl rfl rfl rfl rfl ⟨rfl, rfl, rfl, rfl, rfl⟩ rfl rfl rfl rfl rfl (by kernel_rfl) Try.func7 (by kernel_rfl)
    (of_decide_eq_true (by kernel_rfl)) (by unfold Func.isWrapper; first | (rw [if_pos (by decide +kernel)]; kernel_rfl) | (rw [if_neg (by decide +kernel)]; exact ⟨rfl, rfl⟩))
    (fun os started H enc _ => lifted os started H enc)

/-- The statement. -/
theorem proved : Rows.PileTakesSaid := over
#print axioms proved
end Go.Proofs.Ytnhkllnggpncfaa.pileTakes
