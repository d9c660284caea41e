/- Lists of numbers in memory, for the functions on piles: slices of them, appended to. -/
import Derived.Test.YtnhkllnggpncfaaPoCf
import Derived.Test.YtnhkllnggpncfaaFsSym
import Derived.Test.YtnhkllnggpncfaaFsBits
import Derived.Test.YtnhkllnggpncfaaFsInts
namespace Go.Proofs.Po
open Go Go.Fs
set_option linter.unusedSimpArgs false
noncomputable abbrev T := tbl Try.prog

def ints (xs : List Int) : List AV := xs.map (AV.int .i64 ·)
theorem ints_length (xs : List Int) : (ints xs).length = xs.length := by simp [ints]
theorem ints_append (xs ys : List Int) : ints (xs ++ ys) = ints xs ++ ints ys := by simp [ints]
theorem ints_one (xs : List Int) : (ints xs).all AV.one = true := by simp [ints, AV.one]
theorem ints_at {xs : List Int} {i : Nat} {x : Int} (h : xs[i]? = some x) : (ints xs)[i]? = some (.int .i64 x) := by simp [ints, h]

theorem cut_iff {c : List AV} {o n : Nat} {xs : List AV} : cut c o n = some xs ↔ o + n ≤ c.length ∧ (c.drop o).take n = xs := by
  unfold cut
  by_cases hc : o + n ≤ c.length
  · simp [hc]
  · simp [hc]

/-- A slice that holds these numbers. -/
def IntRow (h : AH) (v : AV) (xs : List Int) : Prop :=
  ∃ (a : Option (Nat × Nat)) (c : Cap), v = .slice a xs.length c ∧ ((∃ k, c = .exact k ∧ xs.length ≤ k) ∨ (c = .opn 1 ∧ a.isSome = true)) ∧
    (xs = [] ∨ ∃ (b o : Nat) (cells : List AV) (ro : Bool), a = some (b, o) ∧ b < h.n ∧ h.get b = some (.cells cells ro) ∧ cut cells o xs.length = some (ints xs))

/-- What was there stays. -/
def Ext (h h1 : AH) : Prop := h.n ≤ h1.n ∧ ∀ b, b < h.n → h1.get b = h.get b
theorem Ext.refl (h : AH) : Ext h h := ⟨Nat.le_refl _, fun _ _ => rfl⟩
theorem Ext.trans {a b c : AH} (h : Ext a b) (k : Ext b c) : Ext a c := ⟨Nat.le_trans h.1 k.1, fun i hi => (k.2 i (Nat.lt_of_lt_of_le hi h.1)).trans (h.2 i hi)⟩
theorem Ext.push (h : AH) (c : Blk) : Ext h (h.push c) := ⟨by simp, fun b hb => Hp.get_push_ne _ _ _ (by omega)⟩
theorem Ext.low (h : AH) (l : Nat) : Ext h (h.withLow l) := ⟨by simp, fun b hb => by simp⟩
theorem Ext.low' (h : AH) (l : Nat) : Ext (h.withLow l) h := ⟨by simp, fun b hb => by simp⟩
theorem IntRow.ext {h h1 : AH} {v : AV} {xs : List Int} (hr : IntRow h v xs) (he : Ext h h1) : IntRow h1 v xs := by
  obtain ⟨a, c, h2, h3, h4⟩ := hr
  refine ⟨a, c, h2, h3, h4.imp id ?_⟩
  rintro ⟨b, o, cells, ro, g1, g2, g3, g4⟩
  exact ⟨b, o, cells, ro, g1, Nat.lt_of_lt_of_le g2 he.1, by rw [he.2 b g2, g3], g4⟩
theorem IntRow.len {h : AH} {v : AV} {xs : List Int} (hr : IntRow h v xs) (hx : AH) : lenV v hx = some (.int .i64 (xs.length : Int), hx) := by
  obtain ⟨a, c, rfl, _⟩ := hr
  rfl
/-- An element, read. -/
theorem IntRow.at {h : AH} {v : AV} {xs : List Int} (hr : IntRow h v xs) {i : Nat} {x : Int} (hx : xs[i]? = some x) :
    ∃ (b o : Nat) (cells : List AV) (ro : Bool), (∀ (k : IntKind) (hy : AH), iaddrV 1 v (.int k (i : Int)) hy = some (.ptr (some (b, o)), hy)) ∧ h.get b = some (.cells cells ro) ∧ cells[o]? = some (.int .i64 x) ∧ b < h.n := by
  obtain ⟨a, c, rfl, _, h4⟩ := hr
  have hlt : i < xs.length := (List.getElem?_eq_some_iff.1 hx).1
  rcases h4 with rfl | ⟨b, o, cells, ro, rfl, g2, g3, g4⟩
  · simp at hlt
  · obtain ⟨k1, k2⟩ := cut_iff.1 g4
    refine ⟨b, o + i, cells, ro, fun k hy => ?_, g3, ?_, g2⟩
    · rw [iaddrV_nat hlt, Nat.mul_one]
    · have := ints_at hx
      rw [← k2, List.getElem?_take_of_lt hlt, List.getElem?_drop] at this
      exact this

/-- A row of the call's own. -/
def Fresh (N : Nat) (h : AH) (v : AV) (xs : List Int) : Prop :=
  (xs = [] ∧ v = .slice none 0 (.exact 0)) ∨ (xs ≠ [] ∧ ∃ b, N ≤ b ∧ b < h.n ∧ v = .slice (some (b, 0)) xs.length (.opn 1) ∧ h.get b = some (.cells (ints xs) false))
theorem Fresh.row {N : Nat} {h : AH} {v : AV} {xs : List Int} (hf : Fresh N h v xs) : IntRow h v xs := by
  rcases hf with ⟨rfl, rfl⟩ | ⟨_, b, _, h2, rfl, h4⟩
  · exact ⟨_, _, rfl, .inl ⟨0, rfl, by simp⟩, .inl rfl⟩
  · exact ⟨_, _, rfl, .inr ⟨rfl, rfl⟩, .inr ⟨b, 0, _, _, rfl, h2, h4, cut_iff.2 ⟨by rw [ints_length]; omega, by rw [List.drop_zero, ← ints_length xs, List.take_length]⟩⟩⟩
theorem Fresh.ext {N : Nat} {h h1 : AH} {v : AV} {xs : List Int} (hf : Fresh N h v xs) (he : Ext h h1) : Fresh N h1 v xs := by
  rcases hf with h1 | ⟨h1, b, h2, h3, h4, h5⟩
  · exact .inl h1
  · exact .inr ⟨h1, b, h2, Nat.lt_of_lt_of_le h3 he.1, h4, by rw [he.2 b h3, h5]⟩
theorem Fresh.le {M N : Nat} {h : AH} {v : AV} {xs : List Int} (hf : Fresh N h v xs) (hm : M ≤ N) : Fresh M h v xs := by
  rcases hf with h1 | ⟨h1, b, h2, h3⟩
  · exact .inl h1
  · exact .inr ⟨h1, b, Nat.le_trans hm h2, h3⟩
theorem fresh_settle {h h' : AH} {v x : AV} {xs : List Int} (hf : Fresh h.n h' x xs) (hu : v.under h.n = true → x.under h.n = true) : Fresh h.n (Fs.settle h h' v).2 x xs := by
  unfold Fs.settle
  split
  · rename_i hc
    rcases hf with h1 | ⟨h1, b, h2, h3, rfl, h5⟩
    · exact .inl h1
    · have := hu hc.2
      simp only [AV.under, decide_eq_true_eq] at this
      omega
  · exact hf.ext (Ext.low _ _)
theorem ext_settle {h h' : AH} {v : AV} (he : Ext h h') : Ext h (Fs.settle h h' v).2 := by
  unfold Fs.settle
  split
  · exact Ext.refl _
  · exact he.trans (Ext.low _ _)
theorem settle_fst (h h' : AH) (v : AV) : (Fs.settle h h' v).1 = v := by unfold Fs.settle; split <;> rfl

/-! ### Slices of slices -/
theorem slc_hi {h : AH} {v : AV} {xs : List Int} (hr : IntRow h v xs) {k : Nat} (hk : k ≤ xs.length) :
    ∃ v', (∀ (tm : List AV) (x : CA) (hx : AH), x.ev tm = .int .i64 (k : Int) → slcVV tm 1 v none (some x) none hx = some (v', hx)) ∧ IntRow h v' (xs.take k) := by
  obtain ⟨a, c, rfl, h3, h4⟩ := hr
  have htk : (xs.take k).length = k := by rw [List.length_take]; omega
  have row : ∀ (b o : Nat) (cells : List AV), cut cells o xs.length = some (ints xs) → cut cells o (xs.take k).length = some (ints (xs.take k)) := fun b o cells hc => by
    obtain ⟨k1, k2⟩ := cut_iff.1 hc
    refine cut_iff.2 ⟨by omega, ?_⟩
    rw [htk, show ints (xs.take k) = (ints xs).take k by simp [ints], ← k2, List.take_take]
    congr 1; omega
  rcases h3 with ⟨n, rfl, hn⟩ | ⟨rfl, ha⟩
  · have hb : ∀ (tm : List AV) (x : CA), x.ev tm = .int .i64 (k : Int) → bounds3 tm xs.length n none (some x) none = some (0, k, n) := by
      intro tm x hi
      unfold bounds3
      simp only [optBound, Option.bind_some, highOf, hi, bound]
      rw [if_pos ⟨by omega, by omega⟩]
      simp
    refine ⟨.slice a k (.exact n), fun tm x hx hi => ?_, a, .exact n, by rw [htk], .inl ⟨n, rfl, by omega⟩, ?_⟩
    · unfold slcVV
      simp only [quietRun, CA.ev, hb tm x hi, Option.map_some, Nat.zero_mul, Nat.add_zero, Nat.sub_zero]
      split
      · rfl
      · cases a with
        | none => rfl
        | some p => rfl
    · rcases h4 with rfl | ⟨b, o, cells, ro, rfl, g2, g3, g4⟩
      · exact .inl (by simp)
      · exact .inr ⟨b, o, cells, ro, rfl, g2, g3, row b o cells g4⟩
  · obtain ⟨⟨b, o⟩, rfl⟩ := Option.isSome_iff_exists.1 ha
    have hb : ∀ (tm : List AV) (x : CA), x.ev tm = .int .i64 (k : Int) → bounds3 tm xs.length xs.length none (some x) none = some (0, k, xs.length) := by
      intro tm x hi
      unfold bounds3
      simp only [optBound, Option.bind_some, highOf, hi, bound]
      rw [if_pos ⟨by omega, by omega⟩]
      simp
    refine ⟨.slice (some (b, o)) k (.opn 1), fun tm x hx hi => ?_, some (b, o), .opn 1, by rw [htk], .inr ⟨rfl, rfl⟩, ?_⟩
    · unfold slcVV
      simp [quietRun, CA.ev, hb tm x hi]
    · rcases h4 with rfl | ⟨b', o', cells, ro, he, g2, g3, g4⟩
      · exact .inl (by simp)
      · exact .inr ⟨b', o', cells, ro, he, g2, g3, row b' o' cells g4⟩
theorem slc_lo {h : AH} {v : AV} {xs : List Int} (hr : IntRow h v xs) {k : Nat} (hk : k ≤ xs.length) :
    ∃ v', (∀ (tm : List AV) (x : CA) (hx : AH), x.ev tm = .int .i64 (k : Int) → slcVV tm 1 v (some x) none none hx = some (v', hx)) ∧ IntRow h v' (xs.drop k) := by
  obtain ⟨a, c, rfl, h3, h4⟩ := hr
  have htk : (xs.drop k).length = xs.length - k := by rw [List.length_drop]
  have row : ∀ (b o : Nat) (cells : List AV), cut cells o xs.length = some (ints xs) → cut cells (o + k) (xs.drop k).length = some (ints (xs.drop k)) := fun b o cells hc => by
    obtain ⟨k1, k2⟩ := cut_iff.1 hc
    refine cut_iff.2 ⟨by omega, ?_⟩
    rw [htk, show ints (xs.drop k) = (ints xs).drop k by simp [ints], ← k2, List.drop_take, List.drop_drop]
  rcases h3 with ⟨n, rfl, hn⟩ | ⟨rfl, ha⟩
  · have hb : ∀ (tm : List AV) (x : CA), x.ev tm = .int .i64 (k : Int) → bounds3 tm xs.length n (some x) none none = some (k, xs.length, n) := by
      intro tm x hi
      unfold bounds3
      simp only [optBound, Option.bind_some, highOf, hi, bound]
      rw [if_pos ⟨by omega, by omega⟩]
      simp
    refine ⟨.slice (if n = k then a else a.map fun (b, o) => (b, o + k * 1)) (xs.length - k) (.exact (n - k)), fun tm x hx hi => ?_, _, .exact (n - k), by rw [htk], .inl ⟨n - k, rfl, by omega⟩, ?_⟩
    · unfold slcVV
      simp only [quietRun, CA.ev, hb tm x hi, Option.map_some]
    · by_cases hnk : n = k
      · exact .inl (List.eq_nil_of_length_eq_zero (by omega))
      · rw [if_neg hnk]
        rcases h4 with rfl | ⟨b, o, cells, ro, rfl, g2, g3, g4⟩
        · exact .inl (by simp)
        · exact .inr ⟨b, o + k, cells, ro, by simp, g2, g3, row b o cells g4⟩
  · obtain ⟨⟨b, o⟩, rfl⟩ := Option.isSome_iff_exists.1 ha
    have hb : ∀ (tm : List AV) (x : CA), x.ev tm = .int .i64 (k : Int) → bounds3 tm xs.length xs.length (some x) none none = some (k, xs.length, xs.length) := by
      intro tm x hi
      unfold bounds3
      simp only [optBound, Option.bind_some, highOf, hi, bound]
      rw [if_pos ⟨by omega, by omega⟩]
      simp
    refine ⟨.slice (some (b, o + k)) (xs.length - k) (.opn 1), fun tm x hx hi => ?_, some (b, o + k), .opn 1, by rw [htk], .inr ⟨rfl, rfl⟩, ?_⟩
    · unfold slcVV
      simp [quietRun, CA.ev, hb tm x hi]
    · rcases h4 with rfl | ⟨b', o', cells, ro, he, g2, g3, g4⟩
      · exact .inl (by simp)
      · obtain ⟨rfl, rfl⟩ : b = b' ∧ o = o' := by simpa using he
        exact .inr ⟨b, o + k, cells, ro, rfl, g2, g3, row b o cells g4⟩

/-! ### Appending -/
theorem elems_row {h : AH} {v : AV} {ys : List Int} (hr : IntRow h v ys) : lenOf v = some ys.length ∧ elemsOf 1 h v = some (ints ys) := by
  obtain ⟨a, c, rfl, _, h4⟩ := hr
  refine ⟨rfl, ?_⟩
  unfold elemsOf
  dsimp only
  rcases h4 with rfl | ⟨b, o, cells, ro, rfl, g2, g3, g4⟩
  · rfl
  · by_cases hz : ys.length = 0
    · rw [if_pos hz]
      have : ys = [] := List.eq_nil_of_length_eq_zero hz
      subst this; rfl
    · rw [if_neg hz]
      simp only [readCells, g3, Nat.mul_one, g4]

theorem elems_nil (h : AH) : elemsOf 1 h (.slice none 0 (.exact 0)) = some [] := rfl
theorem app_nil {h : AH} {v : AV} {xs : List Int} (hr : IntRow h v xs) (hl : xs.length * 8 ≤ 140737488355328) :
    ∃ v' h', appendRun 1 8 (.slice none 0 (.exact 0)) v h = some (v', h') ∧ Fresh h.n h' v' xs ∧ Ext h h' ∧ h'.low = h.low := by
  obtain ⟨e1, e2⟩ := elems_row hr
  by_cases hz : xs = []
  · subst hz
    refine ⟨.slice none 0 (.exact 0), h, ?_, .inl ⟨rfl, rfl⟩, Ext.refl _, rfl⟩
    unfold appendRun
    simp [e1, e2, appendCore, elems_nil]
  · have hp : 0 < xs.length := List.length_pos_iff.2 hz
    refine ⟨.slice (some (h.n, 0)) xs.length (.opn 1), h.push (.cells (ints xs) false), ?_, .inr ⟨hz, h.n, Nat.le_refl _, by simp, rfl, by simp⟩, Ext.push _ _, by simp⟩
    unfold appendRun
    simp only [e1, e2, Option.bind_some, appendCore, elems_nil, if_true, Nat.zero_add, List.nil_append]
    rw [if_neg (by omega), if_pos ⟨hl, by omega⟩]

/-- A full row is appended to: it is dead then. -/
theorem app_own {h : AH} {v : AV} {xs ys : List Int} {b : Nat} (hb : h.get b = some (.cells (ints xs) false)) (hx : xs ≠ []) (hr : IntRow h v ys) (hl : (xs.length + ys.length) * 8 ≤ 140737488355328) :
    ∃ v' h', appendRun 1 8 (.slice (some (b, 0)) xs.length (.opn 1)) v h = some (v', h') ∧ ((v' = .slice (some (b, 0)) xs.length (.opn 1) ∧ ys = [] ∧ h' = h) ∨ (v' = .slice (some (h.n, 0)) (xs ++ ys).length (.opn 1) ∧ ys ≠ [] ∧ h' = (h.set b .dead).push (.cells (ints (xs ++ ys)) false))) := by
  obtain ⟨e1, e2⟩ := elems_row hr
  have hp : 0 < xs.length := List.length_pos_iff.2 hx
  have eold : elemsOf 1 h (.slice (some (b, 0)) xs.length (.opn 1)) = some (ints xs) := by
    unfold elemsOf
    dsimp only
    rw [if_neg (by omega)]
    simp only [readCells, hb, Nat.mul_one]
    exact cut_iff.2 ⟨by rw [ints_length]; omega, by rw [List.drop_zero, ← ints_length xs, List.take_length]⟩
  by_cases hz : ys = []
  · subst hz
    refine ⟨_, _, ?_, .inl ⟨rfl, rfl, rfl⟩⟩
    unfold appendRun
    simp only [e1, e2, Option.bind_some, appendCore, eold, List.length_nil, if_true]
  · have hq : 0 < ys.length := List.length_pos_iff.2 hz
    refine ⟨_, _, ?_, .inr ⟨rfl, hz, rfl⟩⟩
    unfold appendRun
    simp only [e1, e2, Option.bind_some, appendCore, eold, if_true, hb, ints_length, Nat.zero_add, Nat.mul_one, ints_one, and_self]
    rw [if_neg (by omega), if_neg (by omega), if_pos ⟨hl, by omega⟩, List.length_append, ints_append]
    simp only [Hp.n_set]

/-- In place, where there is room. -/
theorem app_room {h : AH} {v : AV} {ys : List Int} {cs : List AV} {b k : Nat} (hb : h.get b = some (.cells cs false)) (hr : IntRow h v ys) (hk : k + ys.length ≤ cs.length) :
    ∃ v' h', appendRun 1 8 (.slice (some (b, 0)) k (.opn 1)) v h = some (v', h') ∧ (v' = .slice (some (b, 0)) (k + ys.length) (.opn 1) ∧ h'.n = h.n ∧ h'.get b = some (.cells (cs.take k ++ ints ys ++ cs.drop (k + ys.length)) false) ∧ ∀ b', b' ≠ b → h'.get b' = h.get b') := by
  obtain ⟨e1, e2⟩ := elems_row hr
  have eold : ∃ o, elemsOf 1 h (.slice (some (b, 0)) k (.opn 1)) = some o := by
    unfold elemsOf
    dsimp only
    by_cases hz : k = 0
    · rw [if_pos hz]; exact ⟨_, rfl⟩
    · rw [if_neg hz]
      simp only [readCells, hb, Nat.mul_one]
      exact ⟨_, cut_iff.2 ⟨by omega, rfl⟩⟩
  obtain ⟨o, eold⟩ := eold
  by_cases hz : ys = []
  · subst hz
    refine ⟨_, h, ?_, rfl, rfl, ?_, fun _ _ => rfl⟩
    · unfold appendRun
      simp only [e1, e2, Option.bind_some, appendCore, eold, List.length_nil, if_true, Nat.add_zero]
    · rw [hb]; simp [ints]
  · have hq : 0 < ys.length := List.length_pos_iff.2 hz
    refine ⟨_, h.set b (.cells (Fs.over cs k (ints ys)) false), ?_, rfl, by simp, ?_, fun b' hb' => ?_⟩
    · unfold appendRun
      simp only [e1, e2, Option.bind_some, appendCore, eold, if_true, hb, Nat.zero_add, Nat.mul_one]
      rw [if_neg (by omega), if_pos hk]
      unfold writeCells
      simp only [hb, ints_length, ints_one, Bool.and_true, decide_eq_true_eq]
      rw [if_pos hk]
      rfl
    · simp [Fs.over, ints_length]
    · rw [Hp.get_set_ne _ _ _ _ hb']
end Go.Proofs.Po
