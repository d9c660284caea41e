/- Append, make, maps, copies. -/
import Derived.Test.YtdehfehdaiappaaGreatDoorFsEff
namespace Go.Fs
section
variable {P : Program} {ι : Emb} {h : AH} {w : World}

theorem lenOf_ok {x : AV} {rx : Value} {n : Nat} (hx : VRel ι x rx) (hn : lenOf x = some n) (w : World) : (Builtin.lenOf rx).run P w = .ok n w := by
  cases x <;> simp only [lenOf] at hn <;> first | (cases hn; done) | skip
  · cases hn
    rw [str_of hx]
    have : ∀ s : List UInt8, (⟨s.toArray⟩ : ByteArray).size = s.length := fun s => by simp [ByteArray.size]
    simp [Builtin.lenOf, this]
  · cases hn
    obtain ⟨q, c, rfl⟩ := nil_or_at hx
    simp [Builtin.lenOf]

/-- The cells that an append or a copy takes over. -/
theorem elems_ok' {G : Nat} (r : Rel G ι h w) {x : AV} {rx : Value} {esz n : Nat} {new : List AV} (hx : VRel ι x rx) (hn : lenOf x = some n) (he : elemsOf esz h x = some new) (k : Nat) (hk : k ≤ n) :
    ∃ arr : Array Value, (∀ w', (∀ a, w'.cell? a = w.cell? a) → (Builtin.firstCells esz k rx).run P w' = .ok arr w') ∧ VRels ι (new.take (k * esz)) arr.toList ∧ new.length = n * esz := by
  cases x <;> simp only [lenOf] at hn <;> first | (cases hn; done) | skip
  · rename_i s
    cases hn
    simp only [elemsOf] at he
    split at he
    · rename_i h1
      cases he
      subst h1
      rw [str_of hx]
      refine ⟨((⟨s.toArray⟩ : ByteArray).extract 0 k).data.map fun b => Value.int .u8 b.toNat, fun w' _ => by simp only [Builtin.firstCells, Sem.run_pure], ?_, by simp [ofBytes]⟩
      have hl : ((⟨s.toArray⟩ : ByteArray).extract 0 k).data.toList = s.take k := by
        simp [List.extract_eq_take_drop]
      rw [Array.toList_map, hl]
      refine VRels.mk (by simp [ofBytes]) fun i c hc => ?_
      rw [Nat.mul_one] at hc
      unfold ofBytes at hc
      rw [← List.map_take] at hc
      simp only [List.getElem?_map, Option.map_eq_some_iff] at hc
      obtain ⟨u, hu, rfl⟩ := hc
      refine ⟨.int .u8 u.toNat, ?_, by simp [VRel]⟩
      rw [List.getElem?_map, hu]
      rfl
    · cases he
  · rename_i xa len cp
    simp only [Option.some.injEq] at hn
    cases xa with
    | none =>
      simp only [elemsOf] at he
      split at he
      · rename_i h0
        cases he
        obtain ⟨q, c, rfl⟩ := nil_or_at hx
        have hk0 : k = 0 := by omega
        have hn0 : n = 0 := by omega
        subst hk0; subst hn0
        refine ⟨#[], fun w' _ => ?_, by simp [VRels], by simp⟩
        cases q <;> simp [Builtin.firstCells, loadCells, loadCellsFrom]
      · cases he
    | some p =>
      obtain ⟨b, o⟩ := p
      simp only [elemsOf] at he
      subst hn
      by_cases hz : len = 0
      · rw [if_pos hz] at he
        cases he
        subst hz
        have hk0 : k = 0 := by omega
        subst hk0
        obtain ⟨q, c, rfl⟩ := nil_or_at hx
        refine ⟨#[], fun w' _ => ?_, by simp [VRels], by simp⟩
        cases q <;> simp [Builtin.firstCells, loadCells, loadCellsFrom]
      rw [if_neg hz] at he
      obtain ⟨vs, h1, h2, h3, h4⟩ := cells_of r he
      rcases Nat.eq_zero_or_pos len with h0 | h0
      · have hk0 : k = 0 := by omega
        subst hk0
        obtain ⟨q, c, rfl⟩ := nil_or_at hx
        refine ⟨#[], fun w' _ => ?_, by simp [VRels], h2⟩
        cases q <;> simp [Builtin.firstCells, loadCells, loadCellsFrom]
      · obtain ⟨hb, c, rfl⟩ := slice_at hx h0
        refine ⟨(vs.take (k * esz)).toArray, fun w' hw' => ?_, by simpa using h3.take _, h2⟩
        have hle : k * esz ≤ len * esz := Nat.mul_le_mul_right _ hk
        have hl : (vs.take (k * esz)).length = k * esz := by rw [List.length_take]; omega
        refine run_firstCells_some w' esz k _ len c _ hl fun j v hv => ?_
        rw [hw']
        rw [List.getElem?_take] at hv
        split at hv
        · exact h4 j v hv
        · cases hv

theorem take_all {l : List AV} {n : Nat} (h : l.length = n) : l.take n = l := List.take_of_length_le (by omega)

/-- What the model needs to know of an append's types. -/
structure AppT (P : Program) (ats : Array TypeId) (e : TypeId) (i : TypeInfo) (z : Value) : Prop where
  t : ∃ t, ats[0]? = some t ∧ P.underlying t = some (.slice e)
  x : ats[1]? = none ∨ ∃ u d, ats[1]? = some u ∧ P.underlying u = some d ∧ (d = .string ∨ ∃ e', d = .slice e')
  info : P.info? e = some i
  zero : i.zero = some z
  zs : z.cells.size = i.size
  zv : ∀ (j : Nat) (v : Value), z.cells[j]? = some v → Spare v
  pos : 0 < i.size

theorem append_room {ats : Array TypeId} {e : TypeId} {i : TypeInfo} {z : Value} (T : AppT P ats e i z) (type : TypeId) {base : Option Addr} {sLen sCap n : Nat} {rx : Value} {new : Array Value} {w' : World}
    (hn : (Builtin.lenOf rx).run P w = .ok n w) (hf : (Builtin.firstCells i.size n rx).run P w = .ok new w) (hroom : sLen + n ≤ sCap)
    (hst : match base with | some a => (storeCells (a.add (sLen * i.size)) new.toList).run P w = .ok () w' | none => w' = w) :
    (Builtin.append_ ats type #[.slice base sLen sCap, rx]).run P w = .ok (.slice base (sLen + n) sCap) w' := by
  obtain ⟨t, ht, hu⟩ := T.t
  have hi := T.info
  rcases T.x with hx | ⟨u, d, hx, hud, rfl | ⟨e', rfl⟩⟩
  · cases base with
    | none => simp only at hst; subst hst; simp [Builtin.append_, ht, hx, run_underlying hu, sizeOf, typeInfo, hi, hn, hroom, hf]
    | some a => simp only at hst; simp [Builtin.append_, ht, hx, run_underlying hu, sizeOf, typeInfo, hi, hn, hroom, hf, hst]
  · cases base with
    | none => simp only at hst; subst hst; simp [Builtin.append_, ht, hx, run_underlying hu, run_underlying hud, sizeOf, typeInfo, hi, hn, hroom, hf]
    | some a => simp only at hst; simp [Builtin.append_, ht, hx, run_underlying hu, run_underlying hud, sizeOf, typeInfo, hi, hn, hroom, hf, hst]
  · cases base with
    | none => simp only at hst; subst hst; simp [Builtin.append_, ht, hx, run_underlying hu, run_underlying hud, sizeOf, typeInfo, hi, hn, hroom, hf]
    | some a => simp only at hst; simp [Builtin.append_, ht, hx, run_underlying hu, run_underlying hud, sizeOf, typeInfo, hi, hn, hroom, hf, hst]

theorem append_grow {ats : Array TypeId} {e : TypeId} {i : TypeInfo} {z : Value} (T : AppT P ats e i z) (type : TypeId) {base : Option Addr} {sLen sCap n : Nat} {rx : Value} {old new : Array Value}
    (hn : (Builtin.lenOf rx).run P w = .ok n w) (hf : (Builtin.firstCells i.size n rx).run P w.drew = .ok new w.drew) (ho : (Builtin.firstCells i.size sLen (.slice base sLen sCap)).run P w.drew = .ok old w.drew)
    (hg : sCap < sLen + n) (hb : (sLen + n) * i.bytes ≤ 140737488355328) (h63 : sLen + n ≤ 1152921504606846976) :
    (Builtin.append_ ats type #[.slice base sLen sCap, rx]).run P w =
      .ok (.slice (some ⟨w.heap.size, 0, none⟩) (sLen + n) (grownCap w (sLen + n) sCap e)) (w.drew.alloc (.cells (old ++ new ++ Builtin.zeroCells z.cells (grownCap w (sLen + n) sCap e - (sLen + n))) e)) := by
  obtain ⟨t, ht, hu⟩ := T.t
  have hi := T.info
  have hz := T.zero
  have h1 : ¬ (sLen + n ≤ sCap) := by omega
  have h2 : ¬ (9223372036854775807 < ((sLen : Int) + (n : Int))) := by omega
  have h3 : ¬ (281474976710656 < Builtin.nextslicecap (sLen + n) sCap * i.bytes) := by have := growslice_fits hg hb; omega
  rcases T.x with hx | ⟨u, d, hx, hud, rfl | ⟨e', rfl⟩⟩
  · simp [Builtin.append_, ht, hx, run_underlying hu, sizeOf, typeInfo, zeroValue, hi, hz, hn, h1, h2, h3, Question.forced, hf, ho, newRow, grownCap]
  · simp [Builtin.append_, ht, hx, run_underlying hu, run_underlying hud, sizeOf, typeInfo, zeroValue, hi, hz, hn, h1, h2, h3, Question.forced, hf, ho, newRow, grownCap]
  · simp [Builtin.append_, ht, hx, run_underlying hu, run_underlying hud, sizeOf, typeInfo, zeroValue, hi, hz, hn, h1, h2, h3, Question.forced, hf, ho, newRow, grownCap]
end
end Go.Fs
