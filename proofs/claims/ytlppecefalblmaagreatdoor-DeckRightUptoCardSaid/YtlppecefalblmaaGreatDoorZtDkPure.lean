/- Which decks may be, in plain words. -/
import Derived.Test.YtlppecefalblmaaGreatDoorZtDkChk
namespace Go.Proofs.Cards
open Go Go.Fs
set_option linter.unusedSimpArgs false
set_option linter.unusedVariables false
theorem ckF_none (ds : List Cd) : ∀ (l seen : List Int), ckF ds seen l = none ↔ (∀ n ∈ l, ∃ d, atD true ds n = some d ∧ d.1.token = false) ∧ ∀ n ∈ l, (seen ++ l).count n ≤ 3
 | [], seen => by simp [ckF]
 | n :: r, seen => by
   unfold ckF
   have ih := ckF_none ds r (seen ++ [n])
   have ea : seen ++ [n] ++ r = seen ++ n :: r := by simp
   rw [ea] at ih
   have cnt : ∀ m, (seen ++ n :: r).count m = seen.count m + (if n = m then 1 else 0) + r.count m := fun m => by
    rw [List.count_append, List.count_cons]
    by_cases e : n = m
    · subst e; simp; omega
    · rw [if_neg e, if_neg (by simpa using e)]; omega
   cases hat : atD true ds n with
   | none =>
     constructor
     · intro h; cases h
     · intro ⟨h, _⟩
       obtain ⟨d, e, _⟩ := h n (by simp)
       rw [hat] at e; cases e
   | some d =>
     simp only
     cases ht : d.1.token with
     | true =>
       constructor
       · intro h; simp at h
       · intro ⟨h, _⟩
         obtain ⟨d', e, e2⟩ := h n (by simp)
         rw [hat] at e; cases e
         rw [ht] at e2; cases e2
     | false =>
       by_cases h3 : 3 ≤ seen.count n
       · constructor
         · intro h; simp [h3] at h
         · intro ⟨_, h⟩
           have := h n (by simp)
           rw [cnt n, if_pos rfl] at this
           omega
       · rw [if_neg (by simp; omega), ih]
         constructor
         · rintro ⟨h1, h2⟩
           refine ⟨fun m hm => ?_, fun m hm => ?_⟩
           · rcases List.mem_cons.1 hm with rfl | hm
             · exact ⟨d, hat, ht⟩
             · exact h1 m hm
           · by_cases hmr : m ∈ r
             · exact h2 m hmr
             · have hmn : n = m := by
                 rcases List.mem_cons.1 hm with e | e
                 · exact e.symm
                 · exact absurd e hmr
               rw [cnt m, if_pos hmn, List.count_eq_zero.2 hmr, ← hmn]
               omega
         · rintro ⟨h1, h2⟩
           exact ⟨fun m hm => h1 m (List.mem_cons_of_mem _ hm), fun m hm => h2 m (List.mem_cons_of_mem _ hm)⟩
theorem ckF_rev {ds : List Cd} {l : List Int} (h : ckF ds [] l = none) : ckF ds [] l.reverse = none := by
 rw [ckF_none] at h ⊢
 simp only [List.nil_append, List.mem_reverse, List.count_reverse] at h ⊢
 exact h
theorem chkD_ok {ds : List Cd} {l : List Int} (h1 : ¬ l.length < 12) (h2 : ¬ 40 < l.length) (h : ckF ds [] l = none) : chkD true ds l = (0, 0) := by
 unfold chkD
 rw [if_neg (by decide), if_neg (by omega), h]
 rfl
theorem chkD_at {ds : List Cd} {l : List Int} {x : Int × Int} (h1 : ¬ l.length < 12) (h2 : ¬ 40 < l.length) (h : ckF ds [] l = some x) : chkD true ds l = x := by
 unfold chkD
 rw [if_neg (by decide), if_neg (by omega), h]
 rfl
theorem mem_fold : ∀ (fds ds : List Cd) (d : Cd), d ∈ fds.foldl addC ds → d ∈ ds ∨ d ∈ fds
 | [], ds, d, h => .inl h
 | e :: r, ds, d, h => by
   rcases mem_fold r (addC ds e) d h with h | h
   · unfold addC at h
     split at h
     · unfold insC at h
       rcases List.mem_append.1 h with h | h
       · exact .inl (List.mem_of_mem_take h)
       · rcases List.mem_cons.1 h with rfl | h
         · exact .inr (by simp)
         · exact .inl (List.mem_of_mem_drop h)
     · exact .inl h
   · exact .inr (by simp [h])
theorem rev_take {l : List Int} {i : Nat} (h : i < l.length) : l.reverse.take (i + 1) = l.reverse.take i ++ [l[l.length - 1 - i]'(by omega)] := by
 rw [List.take_add_one, List.getElem?_reverse h, List.getElem?_eq_getElem (by omega)]
 rfl
end Go.Proofs.Cards
