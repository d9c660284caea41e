/- The law PileShuffles returns true at every list and state; what was handed in reads as it did. -/
import Derived.Test.YtnhkllnggpncfaaRows
import Derived.Test.YtnhkllnggpncfaaPoArg
import Derived.Test.YtnhkllnggpncfaaPsLaw
import Derived.SizedLaws
namespace Go.Proofs.Ytnhkllnggpncfaa.pileShuffles
open Go Go.Fs Go.Proofs.Po Go.ChangeShapes

theorem own : ownKnob Try.prog.godebug = none := by kernel_rfl
theorem mixed : Try.prog.follows .mixedOrders = true := by kernel_rfl
theorem laid : laidOutB Try.prog = true := by kernel_rfl

/-- What is told ahead: whether lists lie apart. -/
def orcA : Orc := fun f => if f = 21 then some (apartOrc 1) else none
theorem goodA : GoodOrc Try.prog orcA := by
  intro f s hs args h v h' hv
  unfold orcA at hs
  split at hs
  · rename_i hf
    subst hf
    cases hs
    exact good_apart mixed (by omega) apart_run (by kernel_rfl) hv
  · cases hs

theorem bytes3 : Try.prog.bytesOf 3 = 8 := by kernel_rfl

set_option maxRecDepth 100000 in
theorem lifted (os : Os) (started : os.Started) (H : Type) (enc : TypeId × Value → H) :
    ReturnsInHanded {} Try.checked os 3 .any (Rows.pileShufflesSpec.pre6 enc Try.prog Try.f3 Rows.pileShufflesRow.domain false) (Rows.pileShufflesSpec.post enc Try.prog Try.f3 false true false false) := by
  refine returnsInHanded_of_change_sized (C := Try.checked) own started (by kernel_rfl) Try.func3
    (ChangeSpec.witness6 (enc := enc) (C := Try.checked) false ⟨#[], #[.slice none 0 0, .int .u64 0], []⟩ 8 (by kernel_rfl) (by kernel_rfl) (by kernel_rfl) (by kernel_rfl)) ?_
  intro W base args ds gs before hval hW _ hsz _
  have hW' := hW
  obtain ⟨p, q, hA, hV, he, _, _⟩ := hW'
  have hA' := hA
  rw [show Try.f3.params.toList = [22, 23] by rw [Try.params3]] at hA'
  obtain ⟨v1, v2, d1, d2, p1, p2, _, rfl, _, h1, h2⟩ := trodAll_two hA'
  obtain ⟨s, rfl⟩ := u64_shape h2
  rw [show Try.f3.params.toList = [22, 23] by rw [Try.params3]] at hsz
  have hall := List.all_eq_true.1 hsz
  obtain ⟨v, h', xs, a1, a2, a3⟩ := absd_row (f := 2) (row_shape h1) (Fs.start Try.prog.globals.size)
  have hl : (xs.length + 2) * 8 ≤ 140737488355328 := by
    have e : reachBytes = 140737488351232 := by decide
    rcases a3 with ⟨rfl, rfl⟩ | ⟨ys, rfl⟩
    · simp
    · have := hall ((xs.length + ys.length) * 8) (DataW.weights_mem_each (j := 0) rfl rfl _ (by
        show _ ∈ DataW.weights Try.prog 22 _
        simp [DataW.weights, Try.underlying22, bytes3]))
      simp only [decide_eq_true_eq] at this
      omega
  have hr := shuffles_spec (orc := orcA) (fun f hf => by
    unfold orcA
    rw [if_neg]
    intro e; subst e
    revert hf; decide) rfl a2 hl s
  obtain ⟨h2', hr⟩ := hr
  have ha : absArgs Try.prog (fun _ => false) 4 Try.f3.params.toList [d1, .lit (.int .u64 s)] (Fs.start Try.prog.globals.size) = some ([v, .int .u64 s], h') := by
    rw [show Try.f3.params.toList = [22, 23] by rw [Try.params3]]
    simp only [absArgs, a1, arg_u64 3, Option.bind_some, Option.map_some]
  refine (law_walk mixed goodA (by kernel_rfl) hA (fun j t v hj hv => hval j t v (by simpa using hj) (by simpa using hv)) ha hr).mono fun e W' ⟨he, hB⟩ => ?_
  exact ⟨_, he, law_post (tb := 4) laid (by kernel_rfl) rfl Try.underlying4 rfl rfl hW hB⟩

theorem over : Rows.pileShufflesRow.holds Try.pinned (OpenSpec.ofChange Rows.pileShufflesSpec) :=
  OpenClaim.holds_of_wide 3 Try.f3 rfl rfl rfl rfl rfl rfl rfl ⟨rfl, rfl, rfl, rfl, rfl⟩ rfl rfl rfl rfl rfl (by kernel_rfl) Try.func3 (by kernel_rfl)
    (of_decide_eq_true (by kernel_rfl)) (by unfold Func.isWrapper; first | (rw [if_pos (by decide +kernel)]; kernel_rfl) | (rw [if_neg (by decide +kernel)]; exact ⟨rfl, rfl⟩))
    (fun os started H enc _ => lifted os started H enc)

/-- The statement. -/
theorem proved : Rows.PileShufflesSaid := over
#print axioms proved
end Go.Proofs.Ytnhkllnggpncfaa.pileShuffles
