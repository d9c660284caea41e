/- Lists of numbers that are handed in. -/
import Derived.Test.YtnhkllnggpncfaaPoBase
import Derived.Test.YtnhkllnggpncfaaFsInts
namespace Go.Proofs.Po
open Go Go.Fs
section
variable {H : Type}

theorem absd_row {f : Nat} {d : DataW H} (hd : d = .nil ∨ ∃ xs ys : List Int, d = .slice (xs.map fun n => .lit (.int .i64 n)) (ys.map fun n => .lit (.int .i64 n))) (h : AH) :
    ∃ v h' xs, absArg Try.prog (fun _ => false) (f + 2) 22 d h = some (v, h') ∧ IntRow h' v xs ∧ (d = .nil ∧ xs = [] ∨ ∃ ys : List Int, d = .slice (xs.map fun n => .lit (.int .i64 n)) (ys.map fun n => .lit (.int .i64 n))) := by
  rcases hd with rfl | ⟨xs, ys, rfl⟩
  · refine ⟨.slice none 0 (.exact 0), h, [], ?_, ⟨_, _, rfl, .inl ⟨0, rfl, by simp⟩, .inl rfl⟩, .inl ⟨rfl, rfl⟩⟩
    simp [absArg, absD, Try.underlying22]
  · by_cases hz : xs.length + ys.length = 0
    · have hx0 : xs = [] := List.eq_nil_of_length_eq_zero (by omega)
      have hy0 : ys = [] := List.eq_nil_of_length_eq_zero (by omega)
      subst hx0 hy0
      refine ⟨.slice (some (h.n, 0)) 0 (.exact 0), h.push .dead, [], ?_, ⟨_, _, rfl, .inl ⟨0, rfl, by simp⟩, .inl rfl⟩, .inr ⟨[], rfl⟩⟩
      unfold absArg
      rw [Try.underlying22]
      simp only
      rw [absD_slice Try.underlying22 (by rfl)]
      rfl
    · refine ⟨.slice (some (h.n, 0)) xs.length (.exact (xs.length + ys.length)), h.push (.cells (ints (xs ++ ys)) true), xs, ?_, ⟨_, _, rfl, .inl ⟨_, rfl, by omega⟩, .inr ⟨h.n, 0, _, true, rfl, by simp, Hp.get_push_self _ _, ?_⟩⟩, .inr ⟨ys, rfl⟩⟩
      · have hc : Try.prog.cellsOf 3 = 1 := by kernel_rfl
        have := absL_ints (H := H) (P := Try.prog) (opq := fun _ => false) (f := f) Try.underlying3 h (xs ++ ys)
        rw [List.map_append] at this
        unfold absArg
        rw [Try.underlying22]
        rw [absD_slice Try.underlying22 (by rfl), List.length_map, List.length_map, if_neg hz, hc, if_pos (by decide), this]
        rfl
      · refine cut_iff.2 ⟨by rw [ints_length, List.length_append]; omega, ?_⟩
        rw [List.drop_zero, ints_append, ← ints_length xs, List.take_left]

theorem row_shape {enc : TypeId × Value → H} {W : World} {v : Value} {d : DataW H} {ps : List MemPlace} (h : DataW.Trod enc Try.prog W 0 (fun _ => true) true 22 v d ps) :
    d = .nil ∨ ∃ xs ys : List Int, d = .slice (xs.map fun n => .lit (.int .i64 n)) (ys.map fun n => .lit (.int .i64 n)) := by
  obtain ⟨fuel, h⟩ := h
  rcases trod_ints Try.underlying22 Try.underlying3 h with h | ⟨xs, ys, h, _⟩
  · exact .inl h
  · exact .inr ⟨xs, ys, h⟩
theorem int_shape {enc : TypeId × Value → H} {W : World} {v : Value} {d : DataW H} {ps : List MemPlace} (h : DataW.Trod enc Try.prog W 0 (fun _ => true) true 3 v d ps) : ∃ n, d = .lit (.int .i64 n) := by
  obtain ⟨fuel, h⟩ := h
  obtain ⟨n, h1, _⟩ := trod_int Try.underlying3 h
  exact ⟨n, h1⟩
theorem u64_shape {enc : TypeId × Value → H} {W : World} {v : Value} {d : DataW H} {ps : List MemPlace} (h : DataW.Trod enc Try.prog W 0 (fun _ => true) true 23 v d ps) : ∃ n, d = .lit (.int .u64 n) := by
  obtain ⟨fuel, h⟩ := h
  obtain ⟨n, h1, _⟩ := trod_int Try.underlying23 h
  exact ⟨n, h1⟩
theorem arg_int (f : Nat) (n : Int) (h : AH) : absArg (H := H) Try.prog (fun _ => false) (f + 1) 3 (.lit (.int .i64 n)) h = some (.int .i64 n, h) := by
  unfold absArg
  rw [Try.underlying3]
  simp only [absD_int Try.underlying3, Option.bind_some]
theorem arg_u64 (f : Nat) (n : Int) (h : AH) : absArg (H := H) Try.prog (fun _ => false) (f + 1) 23 (.lit (.int .u64 n)) h = some (.int .u64 n, h) := by
  unfold absArg
  rw [Try.underlying23]
  simp only [absD_int Try.underlying23, Option.bind_some]
end
end Go.Proofs.Po
