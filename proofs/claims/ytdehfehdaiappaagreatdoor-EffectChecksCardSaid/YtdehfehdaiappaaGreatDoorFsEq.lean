/- Structs and arrays held against each other. -/
import Derived.Test.YtdehfehdaiappaaGreatDoorFsQuiet2
import Derived.Laws.StructEq
namespace Go.Fs
section
variable {P : Program} {ι : Emb} {h : AH} {w : World}

/-- Arrays: element by element. -/
def eqElems (P : Program) (d : Nat) (e : TypeId) (xs ys : Array Value) (n : Nat) : List Nat → Sem Bool
  | [] => pure true
  | i :: is => do
    let a ← part e xs (i * n)
    let b ← part e ys (i * n)
    let r ← Op.equalIn d e a b
    if (!r) = true then pure false else eqElems P d e xs ys n is

theorem run_equalIn_array (w : World) (d : Nat) (t e : TypeId) (len s : Nat) (xs ys : Array Value) (ht : P.underlying t = some (.array len e)) (hs : sizeT P e = some s) :
    (Op.equalIn (d + 1) t (.agg xs) (.agg ys)).run P w = (eqElems P d e xs ys s (List.range' 0 len)).run P w := by
  have hsz : ∀ w, (sizeOf e).run P w = .ok s w := fun w => by
    unfold sizeT at hs
    cases hi : P.info? e with
    | none => simp [hi] at hs
    | some i => simp [hi] at hs; simp [sizeOf, typeInfo, hi, hs]
  simp only [Op.equalIn, Sem.run_bind, run_underlying ht, Result.andThen_ok, hsz]
  simp only [Std.Legacy.Range.forIn_eq_forIn_range', Std.Legacy.Range.size, Nat.sub_zero, Nat.add_one_sub_one, Nat.div_one]
  generalize List.range' 0 len = is
  clear ht
  induction is generalizing w with
  | nil => simp [eqElems]
  | cons i is ih =>
    simp only [List.forIn_cons, eqElems, Sem.run_bind, Sem.run_ite]
    generalize (part e xs (i * s)).run P w = r1
    cases r1 with
    | ok a w1 =>
      simp only [Result.andThen_ok]
      generalize (part e ys (i * s)).run P w1 = r2
      cases r2 with
      | ok b w2 =>
        simp only [Result.andThen_ok]
        generalize (Op.equalIn d e a b).run P w2 = r3
        cases r3 with
        | ok r w3 =>
          cases r
          · simp only [Result.andThen_ok, Bool.not_false, if_true, Sem.run_pure]
          · simp only [Result.andThen_ok, Bool.not_true, Bool.false_eq_true, if_false, Sem.run_pure]
            exact ih w3
        | halt x w3 => simp [Result.andThen]
      | halt x w2 => simp [Result.andThen]
    | halt x w1 => simp [Result.andThen]

theorem leavesEq_head {xs ys : List AV} {i : Nat} {q : SK} {r : Option Bool} (h : leavesEq xs ys [(i, q)] = r) (hr : r ≠ none) :
    ∃ x y b, xs[i]? = some x ∧ ys[i]? = some y ∧ scalEq q x y = some b ∧ r = some b := by
  simp only [leavesEq] at h
  cases hx : xs[i]? with
  | none => simp [hx] at h; exact absurd h.symm hr
  | some x =>
    cases hy : ys[i]? with
    | none => simp [hx, hy] at h; exact absurd h.symm hr
    | some y =>
      simp only [hx, hy] at h
      cases hq : scalEq q x y with
      | none => simp [hq] at h; exact absurd h.symm hr
      | some b => cases b <;> simp [hq] at h <;> exact ⟨x, y, _, rfl, rfl, hq, h.symm⟩

/-- What 'leavesT' tells of a type: whatever the two values, if the leaves can be held against each other the model says the same. -/
def EqOk (P : Program) (t : TypeId) (ls : List (Nat × SK)) (d : Nat) : Prop :=
  ∀ (ι : Emb) (w : World) (D : Nat), d ≤ D → ∀ (as bs : List AV) (rx ry : Array Value) (off : Nat) (X Y : Value) (b : Bool),
    VRels ι as rx.toList → VRels ι bs ry.toList → Sub P t off rx X → Sub P t off ry Y → leavesEq as bs (shift off ls) = some b → (Op.equalIn D t X Y).run P w = .ok b w

/-- A scalar's leaf is there; an aggregate needs nothing. -/
theorem sub_ready {t : TypeId} {m : List (Nat × SK)} {d : Nat} (hm : leavesT P d t = some m) {g : Option Nat} (hg : aggT P t = some g) (hn : g = none) : ∃ q, m = [(0, q)] := by
  cases d with
  | zero => simp [leavesT] at hm
  | succ d =>
    unfold leavesT at hm
    unfold aggT at hg
    subst hn
    cases hu : P.underlying t with
    | none => simp [hu] at hm
    | some de =>
      cases de <;> simp only [hu] at hm hg <;> first | (cases hm; exact ⟨_, rfl⟩) | (cases hm; done) | skip
      all_goals
        cases hi : P.info? t with
        | none => simp [hi] at hg
        | some i => simp [hi] at hg

theorem aggT_ex {t : TypeId} {d : Nat} {m : List (Nat × SK)} (hm : leavesT P d t = some m) {s : Nat} (hs : sizeT P t = some s) : ∃ g, aggT P t = some g := by
  cases d with
  | zero => simp [leavesT] at hm
  | succ d =>
    unfold leavesT at hm
    unfold aggT
    unfold sizeT at hs
    cases hi : P.info? t with
    | none => simp [hi] at hs
    | some i =>
      cases hu : P.underlying t with
      | none => simp [hu] at hm
      | some de => cases de <;> exact ⟨_, rfl⟩

/-- One part of both values, compared. -/
theorem part_eq {t : TypeId} {m : List (Nat × SK)} {d D : Nat} (ih : EqOk P t m d) (hm : leavesT P d t = some m) (hD : d ≤ D) {s sz fo off : Nat} (hs : sizeT P t = some s) (hle : fo + s ≤ sz) (hpos : 0 < s)
    {as bs : List AV} {rx ry : Array Value} {b : Bool} (ha : VRels ι as rx.toList) (hb : VRels ι bs ry.toList) (he : leavesEq as bs (shift (off + fo) m) = some b) :
    ∃ X Y, (part t (rx.extract off (off + sz)) fo).run P w = .ok X w ∧ (part t (ry.extract off (off + sz)) fo).run P w = .ok Y w ∧ (Op.equalIn D t X Y).run P w = .ok b w := by
  obtain ⟨g, hg⟩ := aggT_ex hm hs
  have hx : g = none → ∃ x y, as[off + fo]? = some x ∧ bs[off + fo]? = some y := fun hn => by
    obtain ⟨q, rfl⟩ := sub_ready hm hg hn
    simp only [shift, List.map_cons, List.map_nil, Nat.zero_add] at he
    obtain ⟨x, y, _, h1, h2, _⟩ := leavesEq_head he (by simp)
    exact ⟨x, y, h1, h2⟩
  obtain ⟨X, h1, h2⟩ := part_sub (w := w) (rx := rx) (off := off) hg hs hle hpos fun hn => by
    obtain ⟨x, _, h1, _⟩ := hx hn
    obtain ⟨r, h2, _⟩ := ha.get _ _ h1
    exact ⟨r, by rw [← Array.getElem?_toList]; exact h2⟩
  obtain ⟨Y, h3, h4⟩ := part_sub (w := w) (rx := ry) (off := off) hg hs hle hpos fun hn => by
    obtain ⟨_, y, _, h1⟩ := hx hn
    obtain ⟨r, h2, _⟩ := hb.get _ _ h1
    exact ⟨r, by rw [← Array.getElem?_toList]; exact h2⟩
  exact ⟨X, Y, h1, h3, ih ι w D hD as bs rx ry (off + fo) X Y b ha hb h2 h4 he⟩

theorem fields_ok {d D : Nat} {sz off : Nat} (ih : ∀ t m, leavesT P d t = some m → EqOk P t m d) (hD : d ≤ D) {as bs : List AV} {rx ry : Array Value} (ha : VRels ι as rx.toList) (hb : VRels ι bs ry.toList) :
    ∀ (fs : List Field) (ls : List (Nat × SK)) (b : Bool), leavesFs P (leavesT P d) sz fs = some ls → leavesEq as bs (shift off ls) = some b →
      (Op.eqFields D (rx.extract off (off + sz)) (ry.extract off (off + sz)) fs).run P w = .ok b w
  | [], ls, b, hl, he => by
    simp only [leavesFs, Option.some.injEq] at hl
    subst hl
    simp [shift, leavesEq] at he
    simp [Op.eqFields, he]
  | f :: fs, ls, b, hl, he => by
    simp only [leavesFs] at hl
    cases hr : leavesFs P (leavesT P d) sz fs with
    | none => simp [hr] at hl
    | some l =>
      simp only [hr] at hl
      by_cases hu : f.name = "_"
      · simp only [hu, if_true, Option.some.injEq] at hl
        subst hl
        simp only [Op.eqFields, hu, ne_eq, not_true_eq_false, if_false]
        exact fields_ok ih hD ha hb fs l b hr he
      · simp only [hu, if_false] at hl
        cases hs : sizeT P f.type with
        | none => simp [hs] at hl
        | some s =>
          cases hm : leavesT P d f.type with
          | none => simp [hs, hm] at hl
          | some m =>
            simp only [hs, hm] at hl
            split at hl
            · rename_i hle
              cases hl
              have hsh : shift off (m.map (fun p => (p.1 + f.offset, p.2)) ++ l) = shift (off + f.offset) m ++ shift off l := by
                rw [show (m.map fun p => (p.1 + f.offset, p.2)) = shift f.offset m from rfl, ← shift_shift]
                simp [shift]
              rw [hsh, leavesEq_append] at he
              cases hb1 : leavesEq as bs (shift (off + f.offset) m) with
              | none => simp [hb1] at he
              | some b1 =>
                obtain ⟨X, Y, p1, p2, p3⟩ := part_eq (w := w) (ih _ _ hm) hm hD hs hle.1 hle.2 ha hb hb1
                simp only [Op.eqFields, ne_eq, hu, not_false_eq_true, if_true, Sem.run_bind, p1, p2, p3, Result.andThen_ok]
                cases b1 with
                | false =>
                  simp only [hb1, Option.some.injEq] at he
                  simp [he]
                | true =>
                  simp only [hb1] at he
                  simp only [Bool.not_true, Bool.false_eq_true, if_false]
                  exact fields_ok ih hD ha hb fs l b hr he
            · cases hl

theorem elems_ok {d D : Nat} {sz off s n : Nat} {e : TypeId} {m : List (Nat × SK)} (hm : leavesT P d e = some m) (ih : EqOk P e m d) (hD : d ≤ D) (hs : sizeT P e = some s) (hpos : 0 < s) (hle : n * s ≤ sz)
    {as bs : List AV} {rx ry : Array Value} (ha : VRels ι as rx.toList) (hb : VRels ι bs ry.toList) :
    ∀ (is : List Nat) (b : Bool), (∀ i ∈ is, i < n) → leavesEq as bs (shift off (is.flatMap fun i => m.map fun p => (p.1 + i * s, p.2))) = some b →
      (eqElems P D e (rx.extract off (off + sz)) (ry.extract off (off + sz)) s is).run P w = .ok b w
  | [], b, _, he => by
    simp [shift, leavesEq] at he
    simp [eqElems, he]
  | i :: is, b, hi, he => by
    have hin := hi i (by simp)
    have hsh : shift off ((i :: is).flatMap fun i => m.map fun p => (p.1 + i * s, p.2)) = shift (off + i * s) m ++ shift off (is.flatMap fun i => m.map fun p => (p.1 + i * s, p.2)) := by
      rw [List.flatMap_cons, ← shift_shift]
      simp [shift]
    rw [hsh, leavesEq_append] at he
    have h1 : i * s + s ≤ sz := by
      have : (i + 1) * s ≤ n * s := Nat.mul_le_mul_right s hin
      rw [Nat.add_mul] at this
      omega
    cases hb1 : leavesEq as bs (shift (off + i * s) m) with
    | none => simp [hb1] at he
    | some b1 =>
      obtain ⟨X, Y, p1, p2, p3⟩ := part_eq (w := w) ih hm hD hs h1 hpos ha hb hb1
      simp only [eqElems, Sem.run_bind, p1, p2, p3, Result.andThen_ok]
      cases b1 with
      | false =>
        simp only [hb1, Option.some.injEq] at he
        simp [he]
      | true =>
        simp only [hb1] at he
        simp only [Bool.not_true, Bool.false_eq_true, if_false]
        exact elems_ok hm ih hD hs hpos hle ha hb is b (fun j hj => hi j (by simp [hj])) he

theorem leaves_ok : ∀ (d : Nat) (t : TypeId) (ls : List (Nat × SK)), leavesT P d t = some ls → EqOk P t ls d
  | 0, t, ls, hl => by simp [leavesT] at hl
  | d + 1, t, ls, hl => by
    intro ι w D hD as bs rx ry off X Y b ha hb hX hY he
    obtain ⟨D, rfl⟩ : ∃ k, D = k + 1 := ⟨D - 1, by omega⟩
    have hD : d ≤ D := by omega
    have ih := leaves_ok d
    have scal : ∀ q, ls = [(0, q)] → q.fits P t → (Op.equalIn (D + 1) t X Y).run P w = .ok b w := fun q hq hf => by
      subst hq
      simp only [shift, List.map_cons, List.map_nil, Nat.zero_add] at he
      obtain ⟨x, y, b', h1, h2, h3, h4⟩ := leavesEq_head he (by simp)
      cases h4
      have hag : aggT P t = some none := by
        obtain ⟨i, hi⟩ : ∃ i, P.info? t = some i := by
          cases q
          · exact aggT_some hf
          · obtain ⟨k, hk⟩ := hf; exact aggT_some hk
          · exact aggT_some hf
        unfold aggT
        cases q
        · simp only [SK.fits] at hf; simp [hf]
        · obtain ⟨k, hk⟩ := hf; simp [hk]
        · simp only [SK.fits] at hf; simp [hf]
      have hX' : rx[off]? = some X := by rcases hX with ⟨sz, h5, _⟩ | ⟨_, h5⟩; (rw [hag] at h5; cases h5); exact h5
      have hY' : ry[off]? = some Y := by rcases hY with ⟨sz, h5, _⟩ | ⟨_, h5⟩; (rw [hag] at h5; cases h5); exact h5
      obtain ⟨r1, g1, g2⟩ := ha.get _ _ h1
      obtain ⟨r2, g3, g4⟩ := hb.get _ _ h2
      rw [Array.getElem?_toList, hX'] at g1
      rw [Array.getElem?_toList, hY'] at g3
      cases g1; cases g3
      exact scalEq_ok g2 g4 h3 hf
    unfold leavesT at hl
    cases hu : P.underlying t with
    | none => simp [hu] at hl
    | some de =>
      cases de <;> simp only [hu] at hl <;> first | (cases hl; done) | skip
      case bool => cases hl; exact scal .b rfl hu
      case int k => cases hl; exact scal .i rfl ⟨k, hu⟩
      case string => cases hl; exact scal .s rfl hu
      case array n e =>
        cases h1 : sizeT P t with
        | none => simp [h1] at hl
        | some sz =>
          cases h2 : sizeT P e with
          | none => simp [h1, h2] at hl
          | some s =>
            cases h3 : leavesT P d e with
            | none => simp [h1, h2, h3] at hl
            | some m =>
              simp only [h1, h2, h3] at hl
              split at hl
              · rename_i hle
                cases hl
                obtain ⟨i, hi⟩ := aggT_some hu
                have hag : aggT P t = some (some sz) := by
                  unfold sizeT at h1
                  simp [hi] at h1
                  unfold aggT
                  simp [hu, hi, h1]
                have hX' : X = .agg (rx.extract off (off + sz)) := by rcases hX with ⟨sz', h5, h6⟩ | ⟨h5, _⟩ <;> rw [hag] at h5 <;> cases h5; exact h6
                have hY' : Y = .agg (ry.extract off (off + sz)) := by rcases hY with ⟨sz', h5, h6⟩ | ⟨h5, _⟩ <;> rw [hag] at h5 <;> cases h5; exact h6
                rw [hX', hY', run_equalIn_array w D t e n s _ _ hu h2]
                exact elems_ok h3 (ih e m h3) hD h2 hle.2 hle.1 ha hb _ b (fun i hi => by simpa using hi) he
              · cases hl
      case struct fs =>
        cases h1 : sizeT P t with
        | none => simp [h1] at hl
        | some sz =>
          simp only [h1] at hl
          cases h2 : P.stoodInHeld t with
          | true => simp [h2] at hl
          | false =>
            simp only [h2, Bool.false_eq_true, if_false] at hl
            obtain ⟨i, hi⟩ := aggT_some hu
            have hag : aggT P t = some (some sz) := by
              unfold sizeT at h1
              simp [hi] at h1
              unfold aggT
              simp [hu, hi, h1]
            have hX' : X = .agg (rx.extract off (off + sz)) := by rcases hX with ⟨sz', h5, h6⟩ | ⟨h5, _⟩ <;> rw [hag] at h5 <;> cases h5; exact h6
            have hY' : Y = .agg (ry.extract off (off + sz)) := by rcases hY with ⟨sz', h5, h6⟩ | ⟨h5, _⟩ <;> rw [hag] at h5 <;> cases h5; exact h6
            have hf : P.fieldsOf t = fs := by simp [Program.fieldsOf, hu]
            rw [hX', hY', run_equalIn_struct w D t _ _ (by rw [hf]; exact hu) h2, hf]
            exact fields_ok ih hD ha hb fs.toList ls b hl he
end
end Go.Fs
