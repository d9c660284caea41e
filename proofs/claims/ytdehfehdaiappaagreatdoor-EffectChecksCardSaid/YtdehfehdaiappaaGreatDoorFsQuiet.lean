/- The operations that leave memory alone: what the abstract machine tells is what the model does. -/
import Derived.Test.YtdehfehdaiappaaGreatDoorFsComp
namespace Go.Fs
section
variable {P : Program} {ι : Emb} {h : AH} {w : World}

theorem mapM_rel {ι : Emb} {α : Type} (f : α → Option AV) (g : α → Value) (hf : ∀ x v, f x = some v → VRel ι v (g x)) : ∀ (l : List α) (vs : List AV), l.mapM f = some vs → VRels ι vs (l.map g)
  | [], vs, hm => by simp at hm; subst hm; simp [VRels]
  | x :: l, vs, hm => by
    rw [List.mapM_cons] at hm
    cases hx : f x with
    | none => simp [hx] at hm
    | some v =>
      cases hl : l.mapM f with
      | none => simp [hx, hl] at hm
      | some us =>
        simp [hx, hl] at hm
        subst hm
        simp only [List.map_cons, VRels]
        exact ⟨g x, _, rfl, hf x v hx, mapM_rel f g hf l us hl⟩

theorem ofValue_rel (ι : Emb) : ∀ (n : Nat) (v : Value) (a : AV), ofValue n v = some a → VRel ι a v
  | 0, v, a, h => by simp [ofValue] at h
  | n + 1, v, a, h => by
    have hl : ∀ (cs : Array Value) (us : List AV), cs.toList.mapM (ofValue n) = some us → VRels ι us cs.toList := fun cs us hv => by
      have := mapM_rel (ι := ι) (ofValue n) id (fun x v hx => ofValue_rel ι n x v hx) cs.toList us hv
      simpa using this
    cases v with
    | bool b => simp only [ofValue, Option.some.injEq] at h; subst h; simp [VRel]
    | int k i => simp only [ofValue, Option.some.injEq] at h; subst h; simp [VRel]
    | string s => simp only [ofValue, Option.some.injEq] at h; subst h; simp [VRel]
    | nilFunc => simp only [ofValue, Option.some.injEq] at h; subst h; simp [VRel]
    | nilIface => simp only [ofValue, Option.some.injEq] at h; subst h; simp [VRel]
    | float _ _ => simp [ofValue] at h
    | complex _ _ _ => simp [ofValue] at h
    | chan _ => simp [ofValue] at h
    | pointer p =>
      cases p with
      | none => simp only [ofValue, Option.some.injEq] at h; subst h; simp [VRel]
      | some _ => simp [ofValue] at h
    | map p =>
      cases p with
      | none => simp only [ofValue, Option.some.injEq] at h; subst h; simp [VRel]
      | some _ => simp [ofValue] at h
    | slice p i j =>
      cases p with
      | none =>
        simp only [ofValue] at h
        split at h
        · rename_i hij; cases h; simp [VRel, hij]
        · cases h
      | some _ => simp [ofValue] at h
    | func fn x y =>
      simp only [ofValue] at h
      split at h
      · rename_i hxy
        cases h
        simp only [VRel, VRels]
        refine ⟨x, y, rfl, ?_, ?_⟩
        · simpa using Array.eq_empty_of_size_eq_zero hxy.1
        · simpa using Array.eq_empty_of_size_eq_zero hxy.2
      · cases h
    | iface t v =>
      simp only [ofValue, Option.map_eq_some_iff] at h
      obtain ⟨u, hu, rfl⟩ := h
      simp only [VRel]
      exact ⟨v, rfl, ofValue_rel ι n v u hu⟩
    | agg cs =>
      simp only [ofValue, Option.map_eq_some_iff] at h
      obtain ⟨u, hu, rfl⟩ := h
      simp only [VRel]
      exact ⟨cs, rfl, hl cs u hu⟩
    | tuple cs =>
      simp only [ofValue, Option.map_eq_some_iff] at h
      obtain ⟨u, hu, rfl⟩ := h
      simp only [VRel]
      exact ⟨cs, rfl, hl cs u hu⟩

/-- The frame's temporaries are related, one by one. -/
def ARel (ι : Emb) (tm : List AV) (a : Act) : Prop := VRels ι tm a.tmps.toList

theorem ev_rel {tm : List AV} {a : Act} (r : Rel P.globals.size ι h w) (ha : ARel ι tm a) {x : Operand} {c : CA} (hc : cA P x = some c) : VRel ι (c.ev tm) (a.eval x) := by
  cases x with
  | tmp t =>
    simp only [cA, Option.some.injEq] at hc
    subst hc
    have := VRels.getD ha t
    simpa [CA.ev, Act.eval] using this
  | const v =>
    simp only [cA, Option.map_eq_some_iff] at hc
    obtain ⟨u, hu, rfl⟩ := hc
    exact ofValue_rel ι 200 v u hu
  | global g =>
    simp only [cA] at hc
    split at hc
    · rename_i hg
      cases hc
      have hgl := r.glob g hg
      simp only [CA.ev, Act.eval, VRel]
      refine ⟨by have := r.n; have := r.gn; omega, by rw [hgl.1, hgl.2]⟩
    · cases hc
  | func f =>
    simp only [cA, Option.some.injEq] at hc
    subst hc
    simp [CA.ev, Act.eval, VRel, VRels]

theorem evs_rel {tm : List AV} {a : Act} (r : Rel P.globals.size ι h w) (ha : ARel ι tm a) {xs : Array Operand} {cs : List CA} (hc : cAs P xs = some cs) :
    VRels ι (cs.map (CA.ev tm)) (xs.map a.eval).toList := by
  unfold cAs at hc
  rw [Array.toList_map]
  revert hc
  generalize xs.toList = l
  induction l generalizing cs with
  | nil => intro hc; simp at hc; subst hc; simp [VRels]
  | cons x l ih =>
    intro hc
    rw [List.mapM_cons] at hc
    cases hx : cA P x with
    | none => simp [hx] at hc
    | some c =>
      cases hl : l.mapM (cA P) with
      | none => simp [hx, hl] at hc
      | some us =>
        simp [hx, hl] at hc
        subst hc
        simp only [List.map_cons, VRels]
        exact ⟨_, _, rfl, ev_rel r ha hx, ih hl⟩

/-! ### Memory that is read -/

theorem cell_of {G : Nat} (r : Rel G ι h w) {b o : Nat} {c : AV} (hc : readCell h b o = some c) :
    ∃ v, w.cell? ⟨ι.blk b, ι.sh b + o, none⟩ = some v ∧ VRel ι c v := by
  unfold readCell at hc
  split at hc
  · rename_i cs ro hb
    obtain ⟨arr, e, fr, h1, h2, h3, h4⟩ := r.brel b _ hb
    obtain ⟨v, h5, h6⟩ := h3 o c hc
    exact ⟨v, by simp [World.cell?, h1, h5], h6⟩
  · cases hc

theorem cells_of {G : Nat} (r : Rel G ι h w) {b o n : Nat} {cs : List AV} (hc : readCells h b o n = some cs) :
    ∃ vs : List Value, vs.length = n ∧ cs.length = n ∧ VRels ι cs vs ∧ ∀ (j : Nat) (v : Value), vs[j]? = some v → w.cell? ((⟨ι.blk b, ι.sh b + o, none⟩ : Addr).add j) = some v := by
  unfold readCells at hc
  split at hc
  · rename_i ds ro hb
    unfold cut at hc
    split at hc
    · rename_i hle
      cases hc
      obtain ⟨arr, e, fr, h1, h2, h3, h4⟩ := r.brel b _ hb
      have hsz : ∀ j, j < n → ι.sh b + o + j < arr.size := fun j hj => by
        obtain ⟨v, h5, _⟩ := h3 (o + j) (ds[o + j]'(by omega)) (by simp)
        have := (Array.getElem?_eq_some_iff.1 h5).1
        omega
      have hlen : ((arr.toList.drop (ι.sh b + o)).take n).length = n := by
        rw [List.length_take, List.length_drop]
        rcases Nat.eq_zero_or_pos n with h0 | h0
        · omega
        · have := hsz (n - 1) (by omega)
          simp; omega
      have hlen2 : ((ds.drop o).take n).length = n := by rw [List.length_take, List.length_drop]; omega
      refine ⟨(arr.toList.drop (ι.sh b + o)).take n, hlen, hlen2, VRels.mk (by rw [hlen, hlen2]) fun i c hc => ?_, fun j v hv => ?_⟩
      · rw [List.getElem?_take] at hc ⊢
        split at hc
        · rename_i hlt
          simp only [hlt, if_true]
          rw [List.getElem?_drop] at hc ⊢
          obtain ⟨v, h5, h6⟩ := h3 (o + i) c hc
          exact ⟨v, by rw [Array.getElem?_toList, Nat.add_assoc]; exact h5, h6⟩
        · cases hc
      · rw [List.getElem?_take] at hv
        split at hv
        · rw [List.getElem?_drop, Array.getElem?_toList] at hv
          rw [Addr.add_lit]
          simp [World.cell?, h1, hv]
        · cases hv
    · cases hc
  · cases hc

theorem run_isAgg {t : TypeId} {g : Option Nat} (hg : aggT P t = some g) : (isAgg t).run P w = .ok g.isSome w ∧ ∀ n, g = some n → (sizeOf t).run P w = .ok n w := by
  unfold aggT at hg
  cases hd : P.underlying t with
  | none => simp [hd] at hg
  | some d =>
    have hu := run_underlying hd w
    cases d <;> simp only [hd] at hg
    case struct fs =>
      cases hi : P.info? t with
      | none => simp [hi] at hg
      | some i =>
        simp only [hi, Option.some.injEq] at hg
        subst hg
        simp [isAgg, hu, sizeOf, typeInfo, hi]
    case array n e =>
      cases hi : P.info? t with
      | none => simp [hi] at hg
      | some i =>
        simp only [hi, Option.some.injEq] at hg
        subst hg
        simp [isAgg, hu, sizeOf, typeInfo, hi]
    all_goals
      simp only [Option.some.injEq] at hg
      subst hg
      exact ⟨by simp [isAgg, hu], fun n hn => by cases hn⟩

theorem load_ok (r : Rel P.globals.size ι h w) {t : TypeId} {g : Option Nat} (hg : aggT P t = some g) {b o : Nat} {v : AV}
    (hv : readVar h b o g = some v) :
    ∃ rv, (loadVar t ⟨ι.blk b, ι.sh b + o, none⟩).run P w = .ok rv w ∧ VRel ι v rv := by
  obtain ⟨h1, h2⟩ := run_isAgg (w := w) hg
  cases g with
  | none =>
    obtain ⟨u, hu, hr⟩ := cell_of r hv
    refine ⟨u, ?_, hr⟩
    simp [loadVar, h1, load, Sem.run, hu]
  | some n =>
    simp only [readVar, Option.map_eq_some_iff] at hv
    obtain ⟨cs, hcs, rfl⟩ := hv
    obtain ⟨vs, h3, h4, h5, h6⟩ := cells_of r hcs
    refine ⟨.agg vs.toArray, ?_, by simp only [VRel]; exact ⟨_, rfl, by simpa using h5⟩⟩
    have := run_loadCells_list (P := P) w ⟨ι.blk b, ι.sh b + o, none⟩ vs h6
    rw [h3] at this
    simp [loadVar, h1, h2 n rfl, this]
end
end Go.Fs
