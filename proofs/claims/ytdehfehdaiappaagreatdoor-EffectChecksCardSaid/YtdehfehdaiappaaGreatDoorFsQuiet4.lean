/- A quiet operation: the model yields the value that the abstract machine tells, and leaves the world as it is. -/
import Derived.Test.YtdehfehdaiappaaGreatDoorFsQuiet3
namespace Go.Fs
section
variable {P : Program} {ι : Emb} {h : AH} {w : World}

/-! ### Literals of structs and arrays -/

theorem foldl_set (off : Nat) : ∀ (vc : List Value) (k : Nat) (cells : Array Value), off + k + vc.length ≤ cells.size →
    ((vc.zipIdx k).foldl (fun cs (p : Value × Nat) => cs.setIfInBounds (off + p.2) p.1) cells).toList = cells.toList.take (off + k) ++ vc ++ cells.toList.drop (off + k + vc.length)
  | [], k, cells, h => by simp
  | v :: vc, k, cells, h => by
    simp only [List.length_cons] at h
    simp only [List.zipIdx_cons, List.foldl_cons]
    rw [foldl_set off vc (k + 1) _ (by simp; omega)]
    simp only [Array.toList_setIfInBounds]
    have hlt : off + k < cells.toList.length := by simp; omega
    rw [show off + (k + 1) = (off + k) + 1 by omega, List.take_set, List.drop_set]
    rw [if_pos (by omega)]
    rw [List.take_succ_eq_append_getElem hlt, List.set_append]
    simp only [List.length_take, List.length_cons]
    rw [if_neg (by omega)]
    rw [show off + k - min (off + k) cells.toList.length = 0 by omega]
    simp [show off + k + 1 + vc.length = off + k + (vc.length + 1) by omega]

theorem over_rel {cs vs : List AV} {rs us : List Value} (h1 : VRels ι cs rs) (h2 : VRels ι vs us) (o : Nat) : VRels ι (over cs o vs) (rs.take o ++ us ++ rs.drop (o + us.length)) := by
  unfold over
  rw [h2.length]
  exact ((h1.take o).append h2).append (h1.drop _)

theorem length_over {cs vs : List AV} {o : Nat} (hle : o + vs.length ≤ cs.length) : (over cs o vs).length = cs.length := by
  unfold over
  simp
  omega

theorem fill_ok {tm : List AV} {a : Act} (r : Rel P.globals.size ι h w) (ha : ARel ι tm a) (place : Nat → Option (Nat × Nat)) :
    ∀ (parts : List (Nat × Operand)) (places : List (Nat × Nat × CA)) (cs cs' : List AV) (arr : Array Value),
      List.length places = List.length parts → (∀ (j : Nat) i x off size c, parts[j]? = some (i, x) → places[j]? = some (off, size, c) → place i = some (off, size) ∧ cA P x = some c) →
      fillA tm cs places = some cs' → VRels ι cs arr.toList → ∃ arr', Instr.fill place arr (parts.map fun (i, x) => (i, a.eval x)) = some arr' ∧ VRels ι cs' arr'.toList
  | [], places, cs, cs', arr, hl, _, hf, hr => by
    have : places = [] := List.eq_nil_of_length_eq_zero (by simpa using hl)
    subst this
    simp only [fillA, Option.some.injEq] at hf
    subst hf
    exact ⟨arr, by simp [Instr.fill], hr⟩
  | (i, x) :: parts, [], cs, cs', arr, hl, _, hf, hr => by simp at hl
  | (i, x) :: parts, (off, size, c) :: places, cs, cs', arr, hl, hp, hf, hr => by
    obtain ⟨h1, h2⟩ := hp 0 i x off size c rfl rfl
    simp only [fillA] at hf
    split at hf
    · rename_i hc
      have hv := (ev_rel r ha h2).cells
      have hvl := hv.length
      have hlen := hr.length
      have hs1 : (a.eval x).cells.size = size := by simp at hvl; omega
      have hs2 : arr.size = cs.length := by simpa using hlen
      have e1 : ((a.eval x).cells.zipIdx.foldl (fun cs (p : Value × Nat) => cs.setIfInBounds (off + p.2) p.1) arr).toList = arr.toList.take off ++ (a.eval x).cells.toList ++ arr.toList.drop (off + (a.eval x).cells.toList.length) := by
        have := foldl_set off (a.eval x).cells.toList 0 arr (by simp; omega)
        simp only [Nat.add_zero] at this
        rw [← this, ← Array.foldl_toList]
        congr 2
        simp
      have hr' : VRels ι (over cs off (c.ev tm).cells) ((a.eval x).cells.zipIdx.foldl (fun cs (p : Value × Nat) => cs.setIfInBounds (off + p.2) p.1) arr).toList := by
        rw [e1]; exact over_rel hr hv off
      obtain ⟨arr', h3, h4⟩ := fill_ok r ha place parts places _ cs' _ (by simpa using hl) (fun j i' x' off' size' c' hj hj' => hp (j + 1) i' x' off' size' c' (by simpa using hj) (by simpa using hj')) hf hr'
      refine ⟨arr', ?_, h4⟩
      simp only [List.map_cons, Instr.fill, h1]
      rw [if_neg (by simp [hs1]; omega)]
      exact h3
    · cases hf

theorem placesF_ok (fs : Array Field) : ∀ (ps : List (Nat × Operand)) (l : List (Nat × Nat × CA)), placesF P fs ps = some l → l.length = ps.length ∧
    ∀ (j : Nat) i x off size c, ps[j]? = some (i, x) → l[j]? = some (off, size, c) → (∃ f, fs[i]? = some f ∧ f.offset = off ∧ sizeT P f.type = some size) ∧ cA P x = some c
  | [], l, hl => by simp only [placesF, Option.some.injEq] at hl; subst hl; simp
  | (i, x) :: ps, l, hl => by
    simp only [placesF] at hl
    cases hf : fs[i]? with
    | none => simp [hf] at hl
    | some f =>
      cases hs : sizeT P f.type with
      | none => simp [hf, hs] at hl
      | some s =>
        cases hx : cA P x with
        | none => simp [hf, hs, hx] at hl
        | some c =>
          cases hr : placesF P fs ps with
          | none => simp [hf, hs, hx, hr] at hl
          | some l' =>
            simp only [hf, hs, hx, hr, Option.some.injEq] at hl
            subst hl
            obtain ⟨h1, h2⟩ := placesF_ok fs ps l' hr
            refine ⟨by simp [h1], fun j i' x' off size c' hj hj' => ?_⟩
            cases j with
            | zero =>
              simp only [List.getElem?_cons_zero, Option.some.injEq, Prod.mk.injEq] at hj hj'
              obtain ⟨rfl, rfl⟩ := hj
              obtain ⟨rfl, rfl, rfl⟩ := hj'
              exact ⟨⟨f, hf, rfl, hs⟩, hx⟩
            | succ j => exact h2 j i' x' off size c' (by simpa using hj) (by simpa using hj')

theorem placesA_ok (s : Nat) : ∀ (ps : List (Nat × Operand)) (l : List (Nat × Nat × CA)), placesA P s ps = some l → l.length = ps.length ∧
    ∀ (j : Nat) i x off size c, ps[j]? = some (i, x) → l[j]? = some (off, size, c) → (off = i * s ∧ size = s) ∧ cA P x = some c
  | [], l, hl => by simp only [placesA, Option.some.injEq] at hl; subst hl; simp
  | (i, x) :: ps, l, hl => by
    simp only [placesA] at hl
    cases hx : cA P x with
    | none => simp [hx] at hl
    | some c =>
      cases hr : placesA P s ps with
      | none => simp [hx, hr] at hl
      | some l' =>
        simp only [hx, hr, Option.some.injEq] at hl
        subst hl
        obtain ⟨h1, h2⟩ := placesA_ok s ps l' hr
        refine ⟨by simp [h1], fun j i' x' off size c' hj hj' => ?_⟩
        cases j with
        | zero =>
          simp only [List.getElem?_cons_zero, Option.some.injEq, Prod.mk.injEq] at hj hj'
          obtain ⟨rfl, rfl⟩ := hj
          obtain ⟨rfl, rfl, rfl⟩ := hj'
          exact ⟨⟨rfl, rfl⟩, hx⟩
        | succ j => exact h2 j i' x' off size c' (by simpa using hj) (by simpa using hj')

theorem zeroT_run {t : TypeId} {z : AV} (hz : zeroT P t = some z) : ∃ rz, (∀ w, (zeroValue t).run P w = .ok rz w) ∧ VRel ι z rz ∧ ∃ i, P.info? t = some i ∧ i.zero = some rz := by
  unfold zeroT at hz
  simp only [Option.bind_eq_some_iff] at hz
  obtain ⟨i, hi, rz, hrz, ho⟩ := hz
  exact ⟨rz, fun w => by simp [zeroValue, typeInfo, hi, hrz], ofValue_rel ι 200 rz z ho, i, hi, hrz⟩

theorem zeroT_spare {t : TypeId} {z : AV} (hz : zeroT P t = some z) {i : TypeInfo} {rz : Value} (hi : P.info? t = some i) (hr : i.zero = some rz) (j : Nat) (v : Value) (hv : rz.cells[j]? = some v) : Spare v := by
  have key : ∀ ι' : Emb, VRels ι' z.cells rz.cells.toList := fun ι' => by
    obtain ⟨rz', _, h2, i', hi', hr'⟩ := zeroT_run (ι := ι') hz
    rw [hi] at hi'; cases hi'
    rw [hr] at hr'; cases hr'
    exact h2.cells
  have hl := (key ⟨0, fun _ => 0, fun _ => 0, fun _ => 0, fun _ => 0⟩).length
  have hlt := (Array.getElem?_eq_some_iff.1 hv).1
  simp only [Array.length_toList] at hl
  refine ⟨z.cells[j]'(by omega), fun ι' => ?_⟩
  obtain ⟨r, h1, h2⟩ := (key ι').get j _ (List.getElem?_eq_getElem (by omega))
  rw [Array.getElem?_toList, hv] at h1
  cases h1
  exact h2

theorem run_mapM_places (fs : Array Field) (hs : ∀ f ∈ fs.toList, ∃ s, sizeT P f.type = some s) (w : World) :
    ∃ arr : Array (Nat × Nat), (fs.mapM fun f => do pure (f.offset, ← sizeOf f.type) : Sem (Array (Nat × Nat))).run P w = .ok arr w ∧
      ∀ (i : Nat) f s, fs[i]? = some f → sizeT P f.type = some s → arr[i]? = some (f.offset, s) := by
  have key : ∀ (l : List Field), (∀ f ∈ l, ∃ s, sizeT P f.type = some s) → ∃ arr : List (Nat × Nat), (l.mapM fun f => do pure (f.offset, ← sizeOf f.type) : Sem (List (Nat × Nat))).run P w = .ok arr w ∧
      ∀ (i : Nat) f s, l[i]? = some f → sizeT P f.type = some s → arr[i]? = some (f.offset, s) := by
    intro l
    induction l with
    | nil => intro _; exact ⟨[], by simp, by simp⟩
    | cons f l ih =>
      intro hl
      obtain ⟨s, hs⟩ := hl f (by simp)
      obtain ⟨arr, h1, h2⟩ := ih fun g hg => hl g (by simp [hg])
      refine ⟨(f.offset, s) :: arr, ?_, fun i g s' hi hs' => ?_⟩
      · rw [List.mapM_cons]
        simp only [Sem.run_bind, sizeT_run hs, Result.andThen_ok, Sem.run_pure] at h1 ⊢
        rw [h1]
        simp
      · cases i with
        | zero =>
          simp only [List.getElem?_cons_zero, Option.some.injEq] at hi
          subst hi
          rw [hs] at hs'; cases hs'; rfl
        | succ i => simpa using h2 i g s' (by simpa using hi) hs'
  obtain ⟨arr, h1, h2⟩ := key fs.toList hs
  refine ⟨arr.toArray, ?_, fun i f s hi hs => by simpa using h2 i f s (by simpa using hi) hs⟩
  rw [Array.mapM_eq_mapM_toList]
  simp only [map_eq_pure_bind, Sem.run_bind, h1, Result.andThen_ok, Sem.run_pure]
end
end Go.Fs
