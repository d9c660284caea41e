/- A region whose order is open: the theorem. -/
import Derived.Test.YtdehfehdaiappaaGreatDoorFsDraw2
namespace Go.Fs

theorem mapM_at {α β : Type} (f : α → Option β) : ∀ (l : List α) (m : List β), l.mapM f = some m → m.length = l.length ∧ ∀ (i : Nat) (x : α) (y : β), l[i]? = some x → m[i]? = some y → f x = some y
  | [], m, h => by simp at h; subst h; simp
  | x :: l, m, h => by
    rw [List.mapM_cons] at h
    cases hx : f x with
    | none => simp [hx] at h
    | some y =>
      cases hl : l.mapM f with
      | none => simp [hx, hl] at h
      | some m' =>
        simp [hx, hl] at h
        subst h
        obtain ⟨h1, h2⟩ := mapM_at f l m' hl
        refine ⟨by simp [h1], fun i a b ha hb => ?_⟩
        cases i with
        | zero => simp at ha hb; subst ha; subst hb; exact hx
        | succ i => exact h2 i a b (by simpa using ha) (by simpa using hb)

theorem apart_spec {x y : CR} (h : x.apart y = true) : (∀ d, x.dst = some d → d ∉ y.looks) ∧ (∀ d, x.dst = some d → y.dst ≠ some d) ∧ (∀ d, y.dst = some d → d ∉ x.looks) := by
  refine ⟨fun d hd => ?_, fun d hd => ?_, fun d hd => ?_⟩ <;> simp [CR.apart, hd] at h
  · exact h.1.1
  · exact h.1.2
  · exact h.2

/-- Direct waiting. -/
def Dep (ops : Array Oper) (i j : Nat) : Prop := ∃ o, ops[i]? = some o ∧ ∃ e ∈ o.after, Region.binds .any e = true ∧ e.on = j

theorem directOn_dep {ops : Array Oper} {i k : Nat} {o : Oper} (ho : ops[i]? = some o) (h : directOn o k = true) : Dep ops i k := by
  unfold directOn at h
  obtain ⟨e, he, hb⟩ := Array.any_eq_true'.1 h
  simp only [Bool.and_eq_true, beq_iff_eq] at hb
  exact ⟨o, ho, e, he, hb.1, hb.2⟩

structure OrderOk (ops : Array Oper) (cs : List CR) : Prop where
  dep : ∀ i j, Dep ops i j → j < i
  two : ∀ i k c p, i < cs.length → k < i → cs[i]? = some c → cs[k]? = some p → Dep ops i k ∨ p.apart c = true

theorem orderOk_spec {ops : Array Oper} {cs : List CR} (hl : cs.length = ops.size) (h : orderOk ops cs = true) : OrderOk ops cs := by
  unfold orderOk at h
  rw [List.all_eq_true] at h
  refine ⟨fun i j ⟨o, ho, e, he, hb, hon⟩ => ?_, fun i k c p hi hk hc hp => ?_⟩
  · have hi : i < cs.length := by rw [hl]; exact (Array.getElem?_eq_some_iff.1 ho).1
    have h1 := h i (List.mem_range.2 hi)
    rw [ho, List.getElem?_eq_getElem hi] at h1
    simp only [Bool.and_eq_true] at h1
    have h2 := Array.all_eq_true_iff_forall_mem.1 h1.1 e he
    simp only [hb, Bool.not_true, Bool.false_or, decide_eq_true_eq] at h2
    omega
  · have h1 := h i (List.mem_range.2 hi)
    rw [hc] at h1
    cases ho : ops[i]? with
    | none => simp [ho] at h1
    | some o =>
      rw [ho] at h1
      simp only [Bool.and_eq_true, List.all_eq_true] at h1
      have h2 := h1.2 k (List.mem_range.2 hk)
      rw [hp] at h2
      simp only [Bool.or_eq_true] at h2
      exact h2.imp (directOn_dep ho) id

/-- What 'ancs' lists: whom an operation waits for, directly or not. -/
theorem ancs_spec : ∀ (l pre : List Oper) (acc : List (List Nat)), acc.length = pre.length →
    (∀ i j, j ∈ acc.getD i [] → (∃ o, (pre ++ l)[i]? = some o ∧ ∃ e ∈ o.after, Region.binds .any e = true ∧ (e.on = j ∨ j ∈ acc.getD e.on []))) →
    ∀ i j, j ∈ (ancs l acc).getD i [] → (∃ o, (pre ++ l)[i]? = some o ∧ ∃ e ∈ o.after, Region.binds .any e = true ∧ (e.on = j ∨ j ∈ (ancs l acc).getD e.on []))
  | [], pre, acc, _, h, i, j, hj => by simpa [ancs] using h i j (by simpa [ancs] using hj)
  | o :: l, pre, acc, hl, h, i, j, hj => by
    unfold ancs at hj ⊢
    have hpre : pre ++ (o :: l) = (pre ++ [o]) ++ l := by simp
    rw [hpre]
    refine ancs_spec l (pre ++ [o]) _ (by simp [hl]) (fun i' j' hj' => ?_) i j hj
    have ext : ∀ (d : List Nat) (x y : Nat), y ∈ acc.getD x [] → y ∈ (acc ++ [d]).getD x [] := fun d x y hy => by
      simp only [List.getD_eq_getElem?_getD] at hy ⊢
      by_cases hx : x < acc.length
      · rw [List.getElem?_append_left hx]; exact hy
      · rw [List.getElem?_eq_none (by omega)] at hy; simp at hy
    simp only [List.getD_eq_getElem?_getD] at hj'
    by_cases hi' : i' < acc.length
    · rw [List.getElem?_append_left hi'] at hj'
      obtain ⟨o', g1, e, g2, g3, g4⟩ := h i' j' (by simpa [List.getD_eq_getElem?_getD] using hj')
      refine ⟨o', by rw [← hpre]; exact g1, e, g2, g3, g4.imp id (ext _ _ _)⟩
    · by_cases he : i' = acc.length
      · subst he
        rw [List.getElem?_append_right (Nat.le_refl _)] at hj'
        simp only [Nat.sub_self, List.getElem?_cons_zero, Option.getD_some, List.mem_eraseDups, List.mem_append, List.mem_map, List.mem_filter, List.mem_flatMap] at hj'
        refine ⟨o, by rw [hl]; simp, ?_⟩
        rcases hj' with ⟨e, ⟨he1, he2⟩, he3⟩ | ⟨d, ⟨e, ⟨he1, he2⟩, he3⟩, hd⟩
        · exact ⟨e, by simpa using he1, he2, .inl he3⟩
        · exact ⟨e, by simpa using he1, he2, .inr (ext _ _ _ (by rw [he3]; exact hd))⟩
      · rw [List.getElem?_append_right (by omega), List.getElem?_eq_none (by simp; omega)] at hj'
        simp at hj'

theorem lowOf_le {an : List (List Nat)} {loud : List Nat} {i k : Nat} (h : ∀ j, j < loud.length → loud.getD j 0 ∈ an.getD i [] → j < k) : lowOf an loud i ≤ k := by
  unfold lowOf
  have key : ∀ (l : List Nat) (a : Nat), (∀ j ∈ l, j < loud.length) → a ≤ k → l.foldl (fun a j => if (an.getD i []).contains (loud.getD j 0) then j + 1 else a) a ≤ k := by
    intro l
    induction l with
    | nil => intro a _ ha; exact ha
    | cons j l ih =>
      intro a hl ha
      simp only [List.foldl_cons]
      refine ih _ (fun j' hj' => hl j' (by simp [hj'])) ?_
      split
      · rename_i hc
        exact h j (hl j (by simp)) (by simpa using hc)
      · exact ha
  exact key _ 0 (fun j hj => List.mem_range.1 hj) (Nat.zero_le _)

theorem le_highOfs {an : List (List Nat)} {loud : List Nat} {i k : Nat} (hk : k ≤ loud.length) (h : ∀ j, j < loud.length → i ∈ an.getD (loud.getD j 0) [] → k ≤ j) : k ≤ highOfs an loud i := by
  unfold highOfs
  cases hf : (List.range loud.length).find? (fun j => (an.getD (loud.getD j 0) []).contains i) with
  | none => exact hk
  | some j =>
    have h1 := List.find?_some hf
    have h2 := List.mem_of_find?_eq_some hf
    exact h j (List.mem_range.1 h2) (by simpa using h1)

theorem chain_spec {an : List (List Nat)} : ∀ (l : List Nat), chainOk an l = true → ∀ j, j + 1 < l.length → l.getD j 0 ∈ an.getD (l.getD (j + 1) 0) []
  | [], _, j, hj => by simp at hj
  | [a], _, j, hj => by simp at hj
  | a :: b :: l, h, j, hj => by
    simp only [chainOk, Bool.and_eq_true] at h
    cases j with
    | zero => simpa using h.1
    | succ j => simpa using chain_spec (b :: l) h.2 j (by simpa using hj)
end Go.Fs
