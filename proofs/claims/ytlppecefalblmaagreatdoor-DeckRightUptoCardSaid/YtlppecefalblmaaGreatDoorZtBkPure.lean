/- A card's place in a sorted list: from behind, or from the front. -/
import Derived.Test.YtlppecefalblmaaGreatDoorZtBkRSeal
namespace Go.Proofs.Cards
open Go Go.Fs
set_option linter.unusedSimpArgs false
set_option linter.unusedVariables false
theorem less_trans : ∀ (a b c : List UInt8), Op.bytesLess a b = true → Op.bytesLess b c = true → Op.bytesLess a c = true
 | _, _, [], _, h => by cases h1 : (‹List UInt8› : List UInt8) <;> simp_all [Op.bytesLess]
 | [], _, _ :: _, _, _ => rfl
 | x :: a, [], _ :: _, h, _ => by simp [Op.bytesLess] at h
 | x :: a, y :: b, z :: c, h1, h2 => by
   simp only [Op.bytesLess, Bool.or_eq_true, decide_eq_true_eq, Bool.and_eq_true, beq_iff_eq] at h1 h2 ⊢
   have lt : ∀ {p q : UInt8}, p < q ↔ p.toNat < q.toNat := UInt8.lt_iff_toNat_lt
   rcases h1 with h1 | ⟨rfl, h1⟩
   · rcases h2 with h2 | ⟨rfl, h2⟩
     · left; rw [lt] at *; omega
     · exact .inl h1
   · rcases h2 with h2 | ⟨rfl, h2⟩
     · exact .inl h2
     · exact .inr ⟨rfl, less_trans a b c h1 h2⟩
theorem less_total : ∀ (a b : List UInt8), a ≠ b → Op.bytesLess a b = false → Op.bytesLess b a = true
 | [], [], h, _ => absurd rfl h
 | [], _ :: _, _, h => by simp [Op.bytesLess] at h
 | _ :: _, [], _, _ => rfl
 | x :: a, y :: b, hne, h => by
   simp only [Op.bytesLess, Bool.or_eq_false_iff, decide_eq_false_iff_not] at h
   simp only [Op.bytesLess, Bool.or_eq_true, decide_eq_true_eq, Bool.and_eq_true, beq_iff_eq]
   have lt : ∀ {p q : UInt8}, p < q ↔ p.toNat < q.toNat := UInt8.lt_iff_toNat_lt
   by_cases e : x = y
   · subst e
     right
     refine ⟨rfl, less_total a b (fun e => hne (by rw [e])) ?_⟩
     have := h.2
     simpa using this
   · left
     have h1 := h.1
     rw [lt] at h1 ⊢
     have : x.toNat ≠ y.toNat := fun q => e (UInt8.toNat_inj.1 q)
     omega
theorem ahead_trans {a b c : Crd} (h1 : aheadB a b = true) (h2 : aheadB b c = true) : aheadB a c = true := by
 unfold aheadB at *
 by_cases e1 : a.suit = b.suit
 · rw [if_neg (by simp [e1])] at h1
   by_cases e2 : b.suit = c.suit
   · rw [if_neg (by simp [e2])] at h2
     rw [if_neg (by simp [e1, e2])]
     exact less_trans _ _ _ h1 h2
   · rw [if_pos (by simp [e2])] at h2
     rw [if_pos (by simp [e1, e2]), e1]
     exact h2
 · rw [if_pos (by simp [e1])] at h1
   have q1 := of_decide_eq_true h1
   by_cases e2 : b.suit = c.suit
   · rw [if_pos (by rw [← e2]; simp [e1]), ← e2]
     exact h1
   · rw [if_pos (by simp [e2])] at h2
     have q2 := of_decide_eq_true h2
     rw [if_pos (by rw [bne_iff_ne]; omega), decide_eq_true_eq]
     omega
theorem ahead_total {a b : Crd} (hn : a.name ≠ b.name) (h : aheadB a b = false) : aheadB b a = true := by
 unfold aheadB at *
 by_cases e : a.suit = b.suit
 · rw [if_neg (by simp [e])] at h
   rw [if_neg (by simp [e])]
   exact less_total _ _ hn h
 · rw [if_pos (by simp [e])] at h
   have q := of_decide_eq_false h
   rw [if_pos (by rw [bne_iff_ne]; exact fun q => e q.symm), decide_eq_true_eq]
   omega
def Srt (xs : List Crd) : Prop := xs.Pairwise fun x y => aheadB x y = true
theorem srt_mono {c : Crd} {xs : List Crd} (hs : Srt xs) {i j : Nat} {x y : Crd} (hij : i ≤ j) (hx : xs[i]? = some x) (hy : xs[j]? = some y) (h : aheadB c x = true) : aheadB c y = true := by
 rcases Nat.lt_or_eq_of_le hij with hlt | rfl
 · obtain ⟨hi, ei⟩ := List.getElem?_eq_some_iff.1 hx
   obtain ⟨hj, ej⟩ := List.getElem?_eq_some_iff.1 hy
   have := List.pairwise_iff_getElem.1 hs i j hi hj hlt
   rw [ei, ej] at this
   exact ahead_trans h this
 · rw [hx] at hy; cases hy; exact h
theorem posR_spec (c : Crd) : ∀ (xs : List Crd), (∀ i x, i < posR c xs → xs[i]? = some x → aheadB c x = false) ∧ (∀ x, xs[posR c xs]? = some x → aheadB c x = true)
 | [] => ⟨fun i x h => by simp [posR] at h, fun x h => by simp at h⟩
 | y :: r => by
   obtain ⟨h1, h2⟩ := posR_spec c r
   unfold posR
   split
   · rename_i hy
     exact ⟨fun i x h => by omega, fun x h => by simp at h; subst h; exact hy⟩
   · rename_i hy
     refine ⟨fun i x hi h => ?_, fun x h => h2 x (by simpa using h)⟩
     cases i with
     | zero => simp at h; subst h; simpa using hy
     | succ i => exact h1 i x (by omega) (by simpa using h)
theorem posP_posR {c : Crd} {xs : List Crd} (hs : Srt xs) : posP c xs xs.length = posR c xs := by
 obtain ⟨h1, h2⟩ := posR_spec c xs
 have hle := posR_le c xs
 have key : ∀ k, posR c xs + k ≤ xs.length → posP c xs (posR c xs + k) = posR c xs := by
  intro k
  induction k with
  | zero =>
    intro _
    rw [Nat.add_zero]
    generalize hp : posR c xs = p at *
    cases p with
    | zero => rfl
    | succ q =>
      obtain ⟨x, hx⟩ : ∃ x, xs[q]? = some x := ⟨_, List.getElem?_eq_getElem (by omega)⟩
      have := h1 q x (by omega) hx
      unfold posP ahAt
      rw [hx]
      simp [this]
  | succ k ih =>
    intro hk
    obtain ⟨x, hx⟩ : ∃ x, xs[posR c xs + k]? = some x := ⟨_, List.getElem?_eq_getElem (by omega)⟩
    obtain ⟨y, hy⟩ : ∃ y, xs[posR c xs]? = some y := ⟨_, List.getElem?_eq_getElem (by omega)⟩
    have ha : aheadB c x = true := srt_mono hs (by omega) hy hx (h2 y hy)
    rw [show posR c xs + (k + 1) = (posR c xs + k) + 1 by omega]
    unfold posP ahAt
    rw [hx]
    simp only [ha, if_true]
    exact ih (by omega)
 have := key (xs.length - posR c xs) (by omega)
 rwa [show posR c xs + (xs.length - posR c xs) = xs.length by omega] at this
theorem srt_ins {c : Crd} {xs : List Crd} (hs : Srt xs) (hn : ∀ x ∈ xs, x.name ≠ c.name) : Srt (xs.take (posR c xs) ++ c :: xs.drop (posR c xs)) := by
 obtain ⟨h1, h2⟩ := posR_spec c xs
 have hdrop : ∀ y ∈ xs.drop (posR c xs), aheadB c y = true := fun y hy => by
  obtain ⟨i, hi⟩ := List.getElem?_of_mem hy
  rw [List.getElem?_drop] at hi
  have hlt := (List.getElem?_eq_some_iff.1 hi).1
  obtain ⟨z, hz⟩ : ∃ z, xs[posR c xs]? = some z := ⟨_, List.getElem?_eq_getElem (by omega)⟩
  exact srt_mono hs (by omega) hz hi (h2 z hz)
 have htake : ∀ x ∈ xs.take (posR c xs), aheadB x c = true := fun x hx => by
  obtain ⟨i, hi⟩ := List.getElem?_of_mem hx
  have hlt := (List.getElem?_eq_some_iff.1 hi).1
  rw [List.length_take] at hlt
  rw [List.getElem?_take_of_lt (by omega)] at hi
  exact ahead_total (fun e => hn x (List.mem_of_getElem? hi) e.symm) (h1 i x (by omega) hi)
 unfold Srt
 rw [List.pairwise_append]
 refine ⟨hs.sublist (List.take_sublist _ _), ?_, fun x hx y hy => ?_⟩
 · rw [List.pairwise_cons]
   exact ⟨hdrop, hs.sublist (List.drop_sublist _ _)⟩
 · rcases List.mem_cons.1 hy with rfl | hy
   · exact htake x hx
   · exact ahead_trans (htake x hx) (hdrop y hy)
def insC (ds : List Cd) (d : Cd) : List Cd := ds.take (posR d.1 (ds.map (·.1))) ++ d :: ds.drop (posR d.1 (ds.map (·.1)))
def addC (ds : List Cd) (d : Cd) : List Cd := if cardE (nms ds) d.1 d.2 = 0 then insC ds d else ds
def addM (ms : List Mrk) (m : Mrk) : List Mrk := if markE ms m = 0 then ms.set m.m.toNat m else ms
theorem plc_neg : ∀ (l : List (List UInt8)) (s : List UInt8) (i : Nat), plc l s i < 0 → s ∉ l
 | [], _, _, _ => by simp
 | x :: r, s, i, h => by
   unfold plc at h
   split at h
   · omega
   · rename_i hx
     have := plc_neg r s (i + 1) h
     simp only [List.mem_cons, not_or]
     exact ⟨fun e => hx e.symm, this⟩
theorem cardE_zero {ns : List (List UInt8)} {c : Crd} {ps : List Prt} (h : cardE ns c ps = 0) : chkC c ps = 0 ∧ c.name ∉ ns ∧ ns.length < 64 := by
 unfold cardE at h
 by_cases h1 : chkC c ps = 0
 · rw [if_neg (by simpa using h1)] at h
   by_cases h2 : 0 ≤ plc ns c.name 0
   · rw [if_pos h2] at h; cases h
   · rw [if_neg h2] at h
     by_cases h3 : 64 ≤ ns.length
     · rw [if_pos h3] at h; cases h
     · exact ⟨h1, plc_neg ns c.name 0 (by omega), by omega⟩
 · rw [if_pos h1] at h; exact absurd h h1
structure Good (ds : List Cd) : Prop where
 srt : Srt (ds.map (·.1))
 chk : ∀ d ∈ ds, chkC d.1 d.2 = 0
 len : ds.length ≤ 64
theorem Good.nil : Good [] := ⟨List.Pairwise.nil, by simp, by simp⟩
theorem Good.add {ds : List Cd} (g : Good ds) (d : Cd) : Good (addC ds d) := by
 unfold addC
 split
 · rename_i h
   obtain ⟨h1, h2, h3⟩ := cardE_zero h
   unfold nms at h2 h3
   rw [List.length_map] at h3
   refine ⟨?_, fun x hx => ?_, ?_⟩
   · have := srt_ins (c := d.1) g.srt fun x hx e => h2 (by
       rw [List.mem_map] at hx ⊢
       obtain ⟨y, hy, rfl⟩ := hx
       exact ⟨y, hy, e⟩)
     unfold insC
     rw [List.map_append, List.map_cons, List.map_take, List.map_drop]
     exact this
   · unfold insC at hx
     rcases List.mem_append.1 hx with hx | hx
     · exact g.chk x (List.mem_of_mem_take hx)
     · rcases List.mem_cons.1 hx with rfl | hx
       · exact h1
       · exact g.chk x (List.mem_of_mem_drop hx)
   · unfold insC
     rw [List.length_append, List.length_cons, List.length_take, List.length_drop]
     omega
 · exact g
end Go.Proofs.Cards
