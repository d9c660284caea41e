/- What goes into a book, handed in: what the data look like. -/
import Derived.Test.YtlppecefalblmaaGreatDoorZtDkArgs
namespace Go.Proofs.Cards
open Go Go.Fs
set_option linter.unusedSimpArgs false
set_option linter.unusedVariables false
section
variable {H : Type}
def PSh (e : DataW H) : Prop := e = .nil ∨ ∃ ps qs : List Prt, e = .slice (ps.map Prt.data) (qs.map Prt.data) ∧ ps.length + qs.length ≤ maxLen ∧ ∀ p ∈ ps, p.rng
theorem card_shapeF {enc : TypeId × Value → H} {W : World} {fuel : Nat} {cs : List Value} {d : DataW H} {ps : List MemPlace} (h : DataW.trod enc Tryz.prog W 0 (fun _ => true) true fuel 28 cs = some (d, ps)) :
    ∃ z : CD H, d = z.data ∧ PSh z.2 ∧ z.1.rng := by
 obtain ⟨c, e, h1, h2, h3⟩ := card_shape (v := .agg cs.toArray) ⟨fuel, by simpa [Value.cells] using h⟩
 exact ⟨(c, e), h1, h2, h3⟩
theorem cards_shape {enc : TypeId × Value → H} {W : World} {fuel : Nat} {cs : List Value} {d : DataW H} {ps : List MemPlace} (h : DataW.trod enc Tryz.prog W 0 (fun _ => true) true fuel 42 cs = some (d, ps)) :
    d = .nil ∨ ∃ xs ys : List (CD H), d = .slice (xs.map CD.data) (ys.map CD.data) ∧ ∀ z ∈ xs ++ ys, PSh z.2 ∧ z.1.rng := by
 rcases trod_slice Tryz.underlying42 h with h | ⟨f, xs, ys, rfl, hl, hall⟩
 · exact .inl h
 · have key : ∀ zs : List (DataW H × List MemPlace), (∀ x ∈ zs, ∃ cs', DataW.trod enc Tryz.prog W 0 (fun _ => true) true f 28 cs' = some x) → ∃ L : List (CD H), zs.map (·.1) = L.map CD.data ∧ ∀ z ∈ L, PSh z.2 ∧ z.1.rng := fun zs => by
     induction zs with
     | nil => exact fun _ => ⟨[], rfl, fun z hz => by cases hz⟩
     | cons z zs ih =>
       intro hz
       obtain ⟨ns, h1, h2⟩ := ih fun x hx => hz x (by simp [hx])
       obtain ⟨c, hc⟩ := hz z (by simp)
       obtain ⟨p, h3, h4⟩ := card_shapeF (d := z.1) (ps := z.2) hc
       exact ⟨p :: ns, by rw [List.map_cons, List.map_cons, h1, h3], fun q hq => by
        rcases List.mem_cons.1 hq with rfl | hq
        · exact h4
        · exact h2 q hq⟩
   obtain ⟨L, a1, a2⟩ := key xs fun x hx => hall x (by simp [hx])
   obtain ⟨M, b1, b2⟩ := key ys fun x hx => hall x (by simp [hx])
   exact .inr ⟨L, M, by rw [a1, b1], fun z hz => by
    rcases List.mem_append.1 hz with hz | hz
    · exact a2 z hz
    · exact b2 z hz⟩
theorem mark_shape {enc : TypeId × Value → H} {W : World} {fuel : Nat} {cs : List Value} {d : DataW H} {ps : List MemPlace} (h : DataW.trod enc Tryz.prog W 0 (fun _ => true) true fuel 100 cs = some (d, ps)) : ∃ m : Mrk, d = m.data ∧ 0 ≤ m.m ∧ m.m ≤ 255 := by
 obtain ⟨f, xs, rfl, hx⟩ := trod_struct Tryz.underlying100 h
 simp only [List.mapM_cons, List.mapM_nil, Option.bind_eq_bind, Option.bind_eq_some_iff, Option.pure_def, Option.some.injEq] at hx
 obtain ⟨x1, h1, _, ⟨x2, h2, _, ⟨x3, h3, _, ⟨x4, h4, _, rfl, rfl⟩, rfl⟩, rfl⟩, rfl⟩ := hx
 obtain ⟨n1, e1, r1⟩ := trod_int (d := x1.1) (ps := x1.2) Tryz.underlying77 h1
 obtain ⟨n2, e2, _⟩ := trod_string (d := x2.1) (ps := x2.2) Tryz.underlying9 h2
 obtain ⟨n3, e3, _⟩ := trod_int (d := x3.1) (ps := x3.2) Tryz.underlying3 h3
 obtain ⟨n4, e4, _⟩ := trod_int (d := x4.1) (ps := x4.2) Tryz.underlying3 h4
 exact ⟨⟨n1, n2, n3, n4⟩, by simp [Mrk.data, e1, e2, e3, e4], r1⟩
theorem marks_shape {enc : TypeId × Value → H} {W : World} {fuel : Nat} {cs : List Value} {d : DataW H} {ps : List MemPlace} (h : DataW.trod enc Tryz.prog W 0 (fun _ => true) true fuel 43 cs = some (d, ps)) : FitsM d := by
 rcases trod_slice Tryz.underlying43 h with h | ⟨f, xs, ys, rfl, hl, hall⟩
 · exact .inl h
 · have key : ∀ zs : List (DataW H × List MemPlace), (∀ x ∈ zs, ∃ cs', DataW.trod enc Tryz.prog W 0 (fun _ => true) true f 100 cs' = some x) → ∃ L : List Mrk, zs.map (·.1) = L.map Mrk.data ∧ ∀ m ∈ L, 0 ≤ m.m ∧ m.m ≤ 255 := fun zs => by
     induction zs with
     | nil => exact fun _ => ⟨[], rfl, fun z hz => by cases hz⟩
     | cons z zs ih =>
       intro hz
       obtain ⟨ns, h1, h2⟩ := ih fun x hx => hz x (by simp [hx])
       obtain ⟨c, hc⟩ := hz z (by simp)
       obtain ⟨p, h3, h4⟩ := mark_shape (d := z.1) (ps := z.2) hc
       exact ⟨p :: ns, by rw [List.map_cons, List.map_cons, h1, h3], fun q hq => by
        rcases List.mem_cons.1 hq with rfl | hq
        · exact h4
        · exact h2 q hq⟩
   obtain ⟨L, a1, a2⟩ := key xs fun x hx => hall x (by simp [hx])
   obtain ⟨M, b1, _⟩ := key ys fun x hx => hall x (by simp [hx])
   exact .inr ⟨L, M, by rw [a1, b1], a2⟩
theorem fill_shape {enc : TypeId × Value → H} {W : World} {v : Value} {d : DataW H} {ps : List MemPlace} (h : DataW.Trod enc Tryz.prog W 0 (fun _ => true) true 45 v d ps) :
    ∃ (e1 e2 : DataW H) (op : Bool), d = Fill.data e1 e2 op ∧ (e1 = .nil ∨ ∃ xs ys : List (CD H), e1 = .slice (xs.map CD.data) (ys.map CD.data) ∧ ∀ z ∈ xs ++ ys, PSh z.2 ∧ z.1.rng) ∧ FitsM e2 := by
 obtain ⟨fuel, h⟩ := h
 obtain ⟨f, xs, rfl, hx⟩ := trod_struct Tryz.underlying45 h
 simp only [List.mapM_cons, List.mapM_nil, Option.bind_eq_bind, Option.bind_eq_some_iff, Option.pure_def, Option.some.injEq] at hx
 obtain ⟨x1, h1, _, ⟨x2, h2, _, ⟨x3, h3, _, rfl, rfl⟩, rfl⟩, rfl⟩ := hx
 have e1 := cards_shape (d := x1.1) (ps := x1.2) h1
 have e2 := marks_shape (d := x2.1) (ps := x2.2) h2
 obtain ⟨b, e3⟩ := trod_bool (d := x3.1) (ps := x3.2) Tryz.underlying4 h3
 exact ⟨x1.1, x2.1, b, by simp [Fill.data, e3], e1, e2⟩
theorem ints_shape {enc : TypeId × Value → H} {W : World} {v : Value} {d : DataW H} {ps : List MemPlace} (h : DataW.Trod enc Tryz.prog W 0 (fun _ => true) true 46 v d ps) :
    d = .nil ∨ ∃ xs ys : List Int, d = .slice (xs.map fun n => .lit (.int .i64 n)) (ys.map fun n => .lit (.int .i64 n)) ∧ xs.length + ys.length ≤ maxLen ∧ (∀ n ∈ xs ++ ys, IntKind.min .i64 ≤ n ∧ n ≤ IntKind.max .i64) := by
 obtain ⟨fuel, h⟩ := h
 rcases trod_slice Tryz.underlying46 h with h | ⟨f, xs, ys, rfl, hl, hall⟩
 · exact .inl h
 · have key : ∀ zs : List (DataW H × List MemPlace), (∀ x ∈ zs, ∃ cs', DataW.trod enc Tryz.prog W 0 (fun _ => true) true f 3 cs' = some x) → ∃ L : List Int, zs.map (·.1) = L.map (fun n => DataW.lit (.int .i64 n)) ∧ L.length = zs.length ∧ ∀ n ∈ L, IntKind.min .i64 ≤ n ∧ n ≤ IntKind.max .i64 := fun zs => by
     induction zs with
     | nil => exact fun _ => ⟨[], rfl, rfl, fun z hz => by cases hz⟩
     | cons z zs ih =>
       intro hz
       obtain ⟨ns, h1, h2, h5⟩ := ih fun x hx => hz x (by simp [hx])
       obtain ⟨c, hc⟩ := hz z (by simp)
       obtain ⟨p, h3, h4⟩ := trod_int (d := z.1) (ps := z.2) Tryz.underlying3 hc
       exact ⟨p :: ns, by rw [List.map_cons, List.map_cons, h1, h3], by simp [h2], fun q hq => by
        rcases List.mem_cons.1 hq with rfl | hq
        · exact h4
        · exact h5 q hq⟩
   obtain ⟨L, a1, a3, a2⟩ := key xs fun x hx => hall x (by simp [hx])
   obtain ⟨M, b1, b3, b2⟩ := key ys fun x hx => hall x (by simp [hx])
   exact .inr ⟨L, M, by rw [a1, b1], by omega, fun z hz => by
    rcases List.mem_append.1 hz with hz | hz
    · exact a2 z hz
    · exact b2 z hz⟩
end
end Go.Proofs.Cards
