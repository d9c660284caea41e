/- What a reading looks like, by its type. -/
import Derived.Test.YtdehfehdaiappaaGreatDoorFsOpen
namespace Go.Fs
section
variable {H : Type} {P : Program} {enc : TypeId × Value → H} {w : World} {base : Nat} {sp : Nat → Bool} {held : Bool}

theorem trod_bool {fuel : Nat} {t : TypeId} {cs : List Value} {d : DataW H} {ps : List MemPlace} (hu : P.underlying t = some .bool) (h : DataW.trod enc P w base sp held fuel t cs = some (d, ps)) : ∃ b, d = .lit (.bool b) := by
  cases fuel with
  | zero => cases h
  | succ f =>
    unfold DataW.trod at h
    split at h <;> rename_i h1 <;> (rw [hu] at h1) <;> first | (cases h1; done) | skip
    · cases h; exact ⟨_, rfl⟩
    all_goals (cases h)

theorem trod_int {fuel : Nat} {t : TypeId} {k : IntKind} {cs : List Value} {d : DataW H} {ps : List MemPlace} (hu : P.underlying t = some (.int k)) (h : DataW.trod enc P w base sp held fuel t cs = some (d, ps)) :
    ∃ n, d = .lit (.int k n) ∧ k.min ≤ n ∧ n ≤ k.max := by
  cases fuel with
  | zero => cases h
  | succ f =>
    unfold DataW.trod at h
    split at h <;> rename_i h1 <;> (rw [hu] at h1) <;> first | (cases h1; done) | skip
    · cases h1
      split at h
      · rename_i hk
        cases h
        have := hk.2
        simp only [Lit.wf, Bool.and_eq_true, decide_eq_true_eq] at this
        exact ⟨_, rfl, this⟩
      · cases h
    all_goals (cases h)

theorem trod_string {fuel : Nat} {t : TypeId} {cs : List Value} {d : DataW H} {ps : List MemPlace} (hu : P.underlying t = some .string) (h : DataW.trod enc P w base sp held fuel t cs = some (d, ps)) :
    ∃ bs : List UInt8, d = .lit (.string bs) ∧ bs.length ≤ maxLen := by
  cases fuel with
  | zero => cases h
  | succ f =>
    unfold DataW.trod at h
    split at h <;> rename_i h1 <;> (rw [hu] at h1) <;> first | (cases h1; done) | skip
    · split at h
      · rename_i s hk
        cases h
        exact ⟨_, rfl, by simpa using hk⟩
      · cases h
    all_goals (cases h)

theorem trod_struct {fuel : Nat} {t : TypeId} {fs : Array Field} {cs : List Value} {d : DataW H} {ps : List MemPlace} (hu : P.underlying t = some (.struct fs)) (h : DataW.trod enc P w base sp held fuel t cs = some (d, ps)) :
    ∃ (f : Nat) (xs : List (DataW H × List MemPlace)), d = .agg (xs.map (·.1)) ∧ fs.toList.mapM (fun fd => DataW.trod enc P w base sp held f fd.type ((cs.drop fd.offset).take (P.cellsOf fd.type))) = some xs := by
  cases fuel with
  | zero => cases h
  | succ f =>
    unfold DataW.trod at h
    split at h <;> rename_i h1 <;> (rw [hu] at h1) <;> first | (cases h1; done) | skip
    · cases h1
      split at h
      · obtain ⟨xs, hxs, he⟩ := Option.map_eq_some_iff.1 h
        cases he
        exact ⟨f, xs, rfl, hxs⟩
      · cases h
    all_goals (cases h)

theorem trod_array {fuel : Nat} {t : TypeId} {n : Nat} {e : TypeId} {cs : List Value} {d : DataW H} {ps : List MemPlace} (hu : P.underlying t = some (.array n e)) (h : DataW.trod enc P w base sp held fuel t cs = some (d, ps)) :
    ∃ (f : Nat) (xs : List (DataW H × List MemPlace)), d = .agg (xs.map (·.1)) ∧ xs.length = n ∧ ∀ x ∈ xs, ∃ cs', DataW.trod enc P w base sp held f e cs' = some x := by
  cases fuel with
  | zero => cases h
  | succ f =>
    unfold DataW.trod at h
    split at h <;> rename_i h1 <;> (rw [hu] at h1) <;> first | (cases h1; done) | skip
    · cases h1
      split at h
      · obtain ⟨xs, hxs, he⟩ := Option.map_eq_some_iff.1 h
        cases he
        obtain ⟨g1, g2⟩ := mapM_at _ _ _ hxs
        refine ⟨f, xs, rfl, by simpa using g1, fun x hx => ?_⟩
        obtain ⟨i, hi, rfl⟩ := List.mem_iff_getElem.1 hx
        have hn : i < n := by
          have hl : xs.length = n := by simpa using g1
          omega
        exact ⟨_, g2 i i xs[i] (List.getElem?_range hn) (List.getElem?_eq_getElem hi)⟩
      · cases h
    all_goals (cases h)

theorem trod_slice {fuel : Nat} {t e : TypeId} {cs : List Value} {d : DataW H} {ps : List MemPlace} (hu : P.underlying t = some (.slice e)) (h : DataW.trod enc P w base (fun _ => true) held fuel t cs = some (d, ps)) :
    d = .nil ∨ ∃ (f : Nat) (xs ys : List (DataW H × List MemPlace)), d = .slice (xs.map (·.1)) (ys.map (·.1)) ∧ xs.length + ys.length ≤ maxLen ∧ ∀ x ∈ xs ++ ys, ∃ cs', DataW.trod enc P w base (fun _ => true) held f e cs' = some x := by
  cases fuel with
  | zero => cases h
  | succ f =>
    unfold DataW.trod at h
    split at h <;> rename_i h1 <;> (rw [hu] at h1) <;> first | (cases h1; done) | skip
    · cases h; exact .inl rfl
    · cases h1
      simp only at h
      split at h
      · rename_i hb
        simp only [if_true, Option.bind_eq_some_iff, Option.map_eq_some_iff, Prod.mk.injEq] at h
        obtain ⟨xs, hx, ys, hy, rfl, rfl⟩ := h
        obtain ⟨g1, g2⟩ := mapM_at _ _ _ hx
        obtain ⟨k1, k2⟩ := mapM_at _ _ _ hy
        simp only [List.length_range] at g1 k1
        refine .inr ⟨f, xs, ys, rfl, by omega, fun x hx' => ?_⟩
        rcases List.mem_append.1 hx' with hm | hm
        · obtain ⟨i, hi, rfl⟩ := List.mem_iff_getElem.1 hm
          obtain ⟨c, _, hc⟩ := Option.bind_eq_some_iff.1 (g2 i i xs[i] (List.getElem?_range (by omega)) (List.getElem?_eq_getElem hi))
          exact ⟨c, hc⟩
        · obtain ⟨i, hi, rfl⟩ := List.mem_iff_getElem.1 hm
          obtain ⟨c, _, hc⟩ := Option.bind_eq_some_iff.1 (k2 i i ys[i] (List.getElem?_range (by omega)) (List.getElem?_eq_getElem hi))
          exact ⟨c, hc⟩
      · cases h
    all_goals (cases h)

/-- Slices of integers. -/
theorem trod_ints {fuel : Nat} {t e : TypeId} {k : IntKind} {cs : List Value} {d : DataW H} {ps : List MemPlace} (hu : P.underlying t = some (.slice e)) (he : P.underlying e = some (.int k)) (h : DataW.trod enc P w base (fun _ => true) held fuel t cs = some (d, ps)) :
    d = .nil ∨ ∃ xs ys : List Int, d = .slice (xs.map fun n => .lit (.int k n)) (ys.map fun n => .lit (.int k n)) ∧ xs.length + ys.length ≤ maxLen ∧ (∀ n ∈ xs ++ ys, k.min ≤ n ∧ n ≤ k.max) := by
  rcases trod_slice hu h with h | ⟨f, xs, ys, rfl, hl, hall⟩
  · exact .inl h
  · have key : ∀ zs : List (DataW H × List MemPlace), (∀ x ∈ zs, ∃ cs', DataW.trod enc P w base (fun _ => true) held f e cs' = some x) →
        ∃ ns : List Int, zs.map (·.1) = ns.map (fun n => DataW.lit (.int k n)) ∧ (∀ n ∈ ns, k.min ≤ n ∧ n ≤ k.max) ∧ ns.length = zs.length := fun zs => by
      induction zs with
      | nil => exact fun _ => ⟨[], rfl, by simp, rfl⟩
      | cons z zs ih =>
        intro hz
        obtain ⟨ns, h1, h2, h3⟩ := ih fun x hx => hz x (by simp [hx])
        obtain ⟨c, hc⟩ := hz z (by simp)
        obtain ⟨n, h4, h5⟩ := trod_int (d := z.1) (ps := z.2) he hc
        refine ⟨n :: ns, by simp [h1, h4], fun m hm => ?_, by simp [h3]⟩
        rcases List.mem_cons.1 hm with rfl | hm
        · exact h5
        · exact h2 m hm
    obtain ⟨ns, a1, a2, a3⟩ := key xs fun x hx => hall x (by simp [hx])
    obtain ⟨ms, b1, b2, b3⟩ := key ys fun x hx => hall x (by simp [hx])
    refine .inr ⟨ns, ms, by rw [a1, b1], by omega, fun n hn => ?_⟩
    rcases List.mem_append.1 hn with hm | hm
    · exact a2 n hm
    · exact b2 n hm
end
end Go.Fs
