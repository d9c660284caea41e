/- Lists of integers that are handed in. -/
import Derived.Test.YtdehfehdaiappaaGreatDoorFsLaw
namespace Go.Fs
section
variable {H : Type} {P : Program} {opq : TypeId → Bool}

/-- A slice that holds these numbers. -/
def Ints (k : IntKind) (h : AH) (v : AV) (xs : List Int) : Prop :=
  ∃ (a : Option (Nat × Nat)) (c : Cap), v = .slice a xs.length c ∧ (∀ x ∈ xs, k.min ≤ x ∧ x ≤ k.max) ∧
    (xs = [] ∨ ∃ (b : Nat) (cells : List AV) (ro : Bool), a = some (b, 0) ∧ b < h.n ∧ h.get b = some (.cells cells ro) ∧ ∀ (i : Nat) (x : Int), xs[i]? = some x → cells[i]? = some (.int k x))

theorem Ints.mono {k : IntKind} {h h' : AH} {v : AV} {xs : List Int} (hi : Ints k h v xs) (hn : h.n ≤ h'.n) (ho : ∀ b, b < h.n → h'.get b = h.get b) : Ints k h' v xs := by
  obtain ⟨a, c, h1, h2, h3⟩ := hi
  refine ⟨a, c, h1, h2, ?_⟩
  rcases h3 with h3 | ⟨b, cells, ro, g1, g2, g3, g4⟩
  · exact .inl h3
  · exact .inr ⟨b, cells, ro, g1, by omega, by rw [ho b g2]; exact g3, g4⟩

theorem absD_int {k : IntKind} {e : TypeId} {f : Nat} (he : P.underlying e = some (.int k)) (n : Int) (h : AH) : absD (H := H) P opq (f + 1) e (.lit (.int k n)) h = some ([.int k n], h) := by
  conv => lhs; unfold absD
  simp [he]

theorem absD_slice {t e : TypeId} {f : Nat} (hu : P.underlying t = some (.slice e)) (ho : opq t = false) (xs ys : List (DataW H)) (h : AH) : absD P opq (f + 1) t (.slice xs ys) h =
    if xs.length + ys.length = 0 then some ([.slice (some (h.n, 0)) 0 (.exact 0)], h.push .dead) else if 0 < P.cellsOf e then
      (absL (absD P opq f e) (xs ++ ys) h).map fun (cs, h') => ([.slice (some (h'.n, 0)) xs.length (.exact (xs.length + ys.length))], h'.push (.cells cs true)) else none := by
  conv => lhs; unfold absD
  simp [hu, ho]

theorem absL_ints {k : IntKind} {e : TypeId} {f : Nat} (he : P.underlying e = some (.int k)) (h : AH) : ∀ (ns : List Int), absL (H := H) (absD P opq (f + 1) e) (ns.map fun n => .lit (.int k n)) h = some (ns.map (.int k ·), h)
  | [] => rfl
  | n :: ns => by
    rw [List.map_cons, absL, absD_int he]
    simp [absL_ints he h ns]

theorem absArg_ints {k : IntKind} {t e : TypeId} {f : Nat} (hu : P.underlying t = some (.slice e)) (he : P.underlying e = some (.int k)) (hc : P.cellsOf e = 1) (ho : opq t = false) {d : DataW H}
    (hd : d = .nil ∨ ∃ xs ys : List Int, d = .slice (xs.map fun n => .lit (.int k n)) (ys.map fun n => .lit (.int k n)) ∧ xs.length + ys.length ≤ maxLen ∧ (∀ n ∈ xs ++ ys, k.min ≤ n ∧ n ≤ k.max)) (h : AH) :
    ∃ v h' xs, absArg P opq (f + 2) t d h = some (v, h') ∧ Ints k h' v xs ∧ h.n ≤ h'.n ∧ (∀ b, b < h.n → h'.get b = h.get b) ∧ xs.length ≤ maxLen := by
  rcases hd with rfl | ⟨xs, ys, rfl, hl, hall⟩
  · refine ⟨.slice none 0 (.exact 0), h, [], ?_, ⟨none, .exact 0, rfl, by simp, .inl rfl⟩, Nat.le_refl _, fun _ _ => rfl, by simp⟩
    simp [absArg, absD, hu]
  · have hx : ∀ x ∈ xs, k.min ≤ x ∧ x ≤ k.max := fun x hx => hall x (by simp [hx])
    by_cases hz : xs.length + ys.length = 0
    · have hx0 : xs = [] := List.eq_nil_of_length_eq_zero (by omega)
      have hy0 : ys = [] := List.eq_nil_of_length_eq_zero (by omega)
      subst hx0 hy0
      refine ⟨.slice (some (h.n, 0)) 0 (.exact 0), h.push .dead, [], ?_, ⟨_, .exact 0, rfl, by simp, .inl rfl⟩, by simp, fun b hb => Hp.get_push_ne _ _ _ (by omega), by simp⟩
      unfold absArg
      rw [hu]
      simp only [absD_slice hu ho, List.map_nil, List.length_nil, Nat.add_zero, if_true, Option.bind_some]
    · refine ⟨.slice (some (h.n, 0)) xs.length (.exact (xs.length + ys.length)), h.push (.cells ((xs ++ ys).map (.int k ·)) true), xs, ?_, ⟨_, _, rfl, hx, .inr ⟨h.n, _, true, rfl, by simp, Hp.get_push_self _ _, fun i x hi => ?_⟩⟩, by simp, fun b hb => Hp.get_push_ne _ _ _ (by omega), by omega⟩
      · have := absL_ints (H := H) (P := P) (opq := opq) (f := f) he h (xs ++ ys)
        rw [List.map_append] at this
        unfold absArg
        rw [hu]
        simp only [absD_slice hu ho, List.length_map, if_neg hz, hc, this, Option.map_some, Option.bind_some, if_true, Nat.lt_one_iff]
      · have hlt : i < xs.length := (List.getElem?_eq_some_iff.1 hi).1
        rw [List.getElem?_map, List.getElem?_append_left hlt, hi]
        rfl
end
end Go.Fs
