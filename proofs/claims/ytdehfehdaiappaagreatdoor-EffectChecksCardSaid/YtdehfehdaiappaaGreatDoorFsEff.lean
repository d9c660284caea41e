/- The operations that make or write memory. -/
import Derived.Test.YtdehfehdaiappaaGreatDoorFsQuiet5
import Derived.Laws.IdiomCopy
import Derived.Below
namespace Go.Fs
section
variable {P : Program} {ι : Emb} {h : AH} {w : World}

/-- What is claimed of an operation that makes or writes memory. -/
def Does (P : Program) (ι : Emb) (h : AH) (w : World) (a : Act) (o : Oper) (v : AV) (h' : AH) : Prop :=
  ∃ ι' rv w', ((execOp a.eval o).run P w = .ok (.value rv) w' ∨ ((execOp a.eval o).run P w = .ok .skip w' ∧ rv = Go.undef)) ∧ VRel ι' v rv ∧ Rel P.globals.size ι' h' w' ∧ Stp ι ι' h h' w w'

/-! ### Stores -/

theorem setCells_block (B : Nat) (e : TypeId) (fr : Nat × Nat) : ∀ (vs : List Value) (o : Nat) (w : World) (arr : Array Value), w.heap[B]? = some (.cells arr e fr) → o + vs.length ≤ arr.size →
    (∃ arr', (w.setCells B o vs).heap[B]? = some (.cells arr' e fr) ∧ arr'.toList = arr.toList.take o ++ vs ++ arr.toList.drop (o + vs.length)) ∧
    (∀ k, k ≠ B → (w.setCells B o vs).heap[k]? = w.heap[k]?) ∧ (w.setCells B o vs).heap.size = w.heap.size ∧ (w.setCells B o vs).tape = w.tape ∧ (w.setCells B o vs).os = w.os ∧ (w.setCells B o vs).output = w.output
  | [], o, w, arr, h, _ => ⟨⟨arr, h, by simp⟩, fun _ _ => rfl, rfl, rfl, rfl, rfl⟩
  | v :: vs, o, w, arr, h, hle => by
    simp only [List.length_cons] at hle
    have h1 : (w.setCell ⟨B, o, none⟩ v).heap[B]? = some (.cells (arr.setIfInBounds o v) e fr) := by
      simp [World.setCell, Array.getElem?_modify, h]
    obtain ⟨⟨arr', h2, h3⟩, h4, h5, h6, h7, h8⟩ := setCells_block B e fr vs (o + 1) (w.setCell ⟨B, o, none⟩ v) _ h1 (by simp; omega)
    refine ⟨⟨arr', h2, ?_⟩, fun k hk => ?_, ?_, h6, h7, h8⟩
    · rw [h3]
      simp only [Array.toList_setIfInBounds]
      have hlt : o < arr.toList.length := by simp; omega
      rw [List.take_set, List.drop_set, if_pos (by omega), List.take_succ_eq_append_getElem hlt, List.set_append]
      simp only [List.length_take, List.length_cons]
      rw [if_neg (by omega), show o - min o arr.toList.length = 0 by omega]
      simp [show o + 1 + vs.length = o + (vs.length + 1) by omega]
    · rw [show (w.setCells B o (v :: vs)) = (w.setCell ⟨B, o, none⟩ v).setCells B (o + 1) vs from rfl, h4 k hk]
      exact RowKit.Below.heap_setCell _ _ _ _ hk
    · rw [show (w.setCells B o (v :: vs)) = (w.setCell ⟨B, o, none⟩ v).setCells B (o + 1) vs from rfl, h5]
      simp [World.setCell]

theorem one_of {v : AV} {rv : Value} (hr : VRel ι v rv) (h1 : v.one = true) : rv.oneCell' = true := by
  match v, hr with
  | .bool _, h | .int _ _, h | .str _, h | .ptr none, h | .map none, h | .nilFunc, h | .nilIface, h => simp only [VRel] at h; subst h; rfl
  | .ptr (some (_, _)), h => simp only [VRel] at h; obtain ⟨_, rfl⟩ := h; rfl
  | .map (some _), h => simp only [VRel] at h; obtain ⟨_, rfl⟩ := h; rfl
  | .slice none _ (.exact _), h => simp only [VRel] at h; obtain ⟨_, _, rfl⟩ := h; rfl
  | .slice none _ (.opn _), h => simp only [VRel] at h
  | .slice (some (_, _)) _ (.exact _), h => simp only [VRel] at h; obtain ⟨_, _, _, rfl, _⟩ := h; rfl
  | .slice (some (_, _)) _ (.opn _), h => simp only [VRel] at h; obtain ⟨_, _, _, _, rfl, _⟩ := h; rfl
  | .func _ _ _, h => simp only [VRel] at h; obtain ⟨_, _, rfl, _⟩ := h; rfl
  | .iface _ _, h => simp only [VRel] at h; obtain ⟨_, rfl, _⟩ := h; rfl
  | .tuple _, _ => simp [AV.one] at h1
  | .agg cs, _ => simp [AV.one] at h1
  | .junk c, h => simp only [VRel] at h; exact h.2.2 h1

theorem ones_of : ∀ {vs : List AV} {rs : List Value}, VRels ι vs rs → vs.all AV.one = true → ∀ r ∈ rs, r.oneCell' = true
  | [], rs, hr, _, r, hm => by simp only [VRels] at hr; subst hr; cases hm
  | v :: vs, rs, hr, h1, r, hm => by
    simp only [VRels] at hr
    obtain ⟨x, xs, rfl, h2, h3⟩ := hr
    simp only [List.all_cons, Bool.and_eq_true] at h1
    cases hm with
    | head => exact one_of h2 h1.1
    | tail _ hm => exact ones_of h3 h1.2 r hm

/-- A block's cells written over, in both heaps. -/
theorem write_rel {G : Nat} (r : Rel G ι h w) {b o : Nat} {vs : List AV} {rs : List Value} {h' : AH} (hw : writeCells h b o vs = some h') (hr : VRels ι vs rs) :
    (∀ j, j < rs.length → (w.cell? ⟨ι.blk b, ι.sh b + o + j, none⟩).isSome = true) ∧ (∀ j, j < rs.length → w.frozen? ⟨ι.blk b, ι.sh b + o + j, none⟩ = false) ∧ (∀ v ∈ rs, v.oneCell' = true) ∧
    Rel G ι h' (w.setCells (ι.blk b) (ι.sh b + o) rs) ∧ Stp ι ι h h' w (w.setCells (ι.blk b) (ι.sh b + o) rs) := by
  unfold writeCells at hw
  split at hw
  · rename_i cs hb
    split at hw
    · rename_i hcond
      cases hw
      simp only [Bool.and_eq_true, decide_eq_true_eq] at hcond
      obtain ⟨hle, hone⟩ := hcond
      obtain ⟨arr, e, fr, h1, h2, h3, h4, h4'⟩ := r.brel b _ hb
      have hlen := hr.length
      have hsz : ∀ j, j < cs.length → ι.sh b + j < arr.size := fun j hj => by
        obtain ⟨v, h5, _⟩ := h3 j cs[j] (by simp [hj])
        exact (Array.getElem?_eq_some_iff.1 h5).1
      have hin : ∀ j, j < rs.length → ι.sh b + o + j < arr.size := fun j hj => by
        have := hsz (o + j) (by omega)
        omega
      have hfit : ι.sh b + o + rs.length ≤ arr.size ∨ rs.length = 0 := by
        rcases Nat.eq_zero_or_pos rs.length with h0 | h0
        · exact .inr h0
        · left; have := hin (rs.length - 1) (by omega); omega
      have ones := ones_of hr hone
      refine ⟨fun j hj => ?_, fun j hj => ?_, ones, ?_⟩
      · simp [World.cell?, h1, hin j hj]
      · have := (h4 rfl).1
        simp only [World.frozen?, h1, Bool.and_eq_false_iff, decide_eq_false_iff_not]
        have h5 := hin j hj
        by_cases hlo : fr.1 ≤ ι.sh b + o + j
        · right; intro hhi
          have := this _ hlo hhi
          omega
        · exact .inl hlo
      · rcases hfit with hfit | h0
        · obtain ⟨⟨arr', g1, g2⟩, g3, g4, g5, g6, g7⟩ := setCells_block (ι.blk b) e fr rs (ι.sh b + o) w arr h1 hfit
          have hasz : arr'.size = arr.size := by
            have := congrArg List.length g2
            simp at this
            omega
          have hsame : ∀ b' c', h.get b' = some c' → b' ≠ b → c'.live → (w.setCells (ι.blk b) (ι.sh b + o) rs).heap[ι.blk b']? = w.heap[ι.blk b']? := fun b' c' hb' hne hl => by
            refine g3 _ ?_
            exact fun he => r.sep b b' _ c' hb hb' (Ne.symm hne) rfl hl he.symm
          refine ⟨⟨by simpa using r.n, fun b' c' hb' => ?_, by simpa using r.gn, r.glob, fun b' c' hb' => ?_, fun b1 b2 c1 c2 hb1 hb2 hne hrw hlv => ?_⟩, ?_⟩
          · rw [Hp.get_set] at hb'
            split at hb'
            · rename_i he; rw [he]; exact r.dom b _ hb
            · exact r.dom b' c' hb'
          · rw [Hp.get_set] at hb'
            split at hb'
            · rename_i he
              cases hb'
              rw [he]
              refine ⟨arr', e, fr, g1, by rw [h2, hasz], fun i c hc => ?_, fun _ => ⟨fun j hlo hhi => by rw [hasz]; exact (h4 rfl).1 j hlo hhi, fun j v hj hv => ?_⟩, h4'⟩
              rotate_left
              · rw [length_over hle] at hj
                refine (h4 rfl).2 j v hj ?_
                rw [← Array.getElem?_toList, g2, List.getElem?_append_right (by simp; omega)] at hv
                simp only [List.length_append, List.length_take, Array.length_toList, List.getElem?_drop] at hv
                rw [← Array.getElem?_toList, ← hv]
                congr 1
                omega
              have hR : VRels ι (over cs o vs) (((arr.toList.drop (ι.sh b)).take cs.length).take o ++ rs ++ ((arr.toList.drop (ι.sh b)).take cs.length).drop (o + rs.length)) := by
                refine over_rel (VRels.mk ?_ fun i c hc => ?_) hr o
                · rw [List.length_take, List.length_drop]
                  rcases Nat.eq_zero_or_pos cs.length with h0 | h0
                  · omega
                  · have := hsz (cs.length - 1) (by omega); simp; omega
                · have hi : i < cs.length := (List.getElem?_eq_some_iff.1 hc).1
                  obtain ⟨v, h5, h6⟩ := h3 i c hc
                  exact ⟨v, by rw [List.getElem?_take, if_pos hi, List.getElem?_drop, Array.getElem?_toList]; exact h5, h6⟩
              obtain ⟨v, h5, h6⟩ := hR.get i c hc
              refine ⟨v, ?_, h6⟩
              have hi : i < cs.length := by have := (List.getElem?_eq_some_iff.1 hc).1; rw [length_over (by omega)] at this; exact this
              rw [← Array.getElem?_toList, g2]
              have hL : (List.take o ((arr.toList.drop (ι.sh b)).take cs.length)).length = o := by
                rw [List.length_take, List.length_take, List.length_drop]
                have : arr.toList.length - ι.sh b ≥ cs.length := by
                  rcases Nat.eq_zero_or_pos cs.length with h0 | h0
                  · omega
                  · have := hsz (cs.length - 1) (by omega); simp; omega
                omega
              have hA : (arr.toList.take (ι.sh b + o)).length = ι.sh b + o := by simp; omega
              rw [List.append_assoc] at h5 ⊢
              by_cases h7 : i < o
              · rw [List.getElem?_append_left (by omega)] at h5
                rw [List.getElem?_append_left (by omega)]
                rw [List.getElem?_take, if_pos h7, List.getElem?_take, if_pos hi, List.getElem?_drop] at h5
                rw [List.getElem?_take, if_pos (by omega)]
                exact h5
              · rw [List.getElem?_append_right (by omega), hL] at h5
                rw [List.getElem?_append_right (by omega), hA, show ι.sh b + i - (ι.sh b + o) = i - o by omega]
                by_cases h8 : i - o < rs.length
                · rw [List.getElem?_append_left h8] at h5 ⊢
                  exact h5
                · rw [List.getElem?_append_right (by omega), List.getElem?_drop, List.getElem?_take, if_pos (by omega), List.getElem?_drop] at h5
                  rw [List.getElem?_append_right (by omega), List.getElem?_drop]
                  rw [← h5]
                  congr 1
                  omega
            · rename_i he
              exact (r.brel b' c' hb').mono (by rw [r.n]; exact r.dom b' c' hb') ι.le_refl fun hl => hsame b' c' hb' he hl
          · rw [Hp.get_set] at hb1 hb2
            have k1 : ∃ c, h.get b1 = some c ∧ c.rw := by
              split at hb1
              · rename_i he; exact ⟨.cells cs false, by rw [he]; exact hb, rfl⟩
              · exact ⟨_, hb1, hrw⟩
            have k2 : ∃ c, h.get b2 = some c ∧ c.live := by
              split at hb2
              · rename_i he; exact ⟨.cells cs false, by rw [he]; exact hb, trivial⟩
              · exact ⟨_, hb2, hlv⟩
            obtain ⟨d1, e1, e2⟩ := k1
            obtain ⟨d2, e3, e4⟩ := k2
            exact r.sep b1 b2 d1 d2 e1 e3 hne e2 e4
          · refine ⟨ι.le_refl, g6, g5, g7, by omega, fun k hk hn => g3 k (fun he => hn b _ hb rfl he.symm), fun b' c' hb' hrw => ?_, by simp, by simp; omega, fun b' h5 h6 => ?_⟩
            · rw [Hp.get_set] at hb'
              split at hb'
              · rename_i he; exact .inr ⟨b, _, hb, rfl, by rw [he]⟩
              · exact .inr ⟨b', c', hb', hrw, rfl⟩
            · simp at h5
              exact Hp.get_set_ne _ _ _ _ (by omega)
        · have : rs = [] := List.eq_nil_of_length_eq_zero h0
          subst this
          have : vs = [] := List.eq_nil_of_length_eq_zero (by simpa using hlen.symm)
          subst this
          have hov : over cs o [] = cs := by simp [over]
          rw [hov]
          have hget : ∀ b', (h.set b (.cells cs false)).get b' = h.get b' := fun b' => by
            rw [Hp.get_set]
            split
            · rename_i he; rw [he, hb]
            · rfl
          refine ⟨⟨by simpa using r.n, fun b' c' hb' => by rw [hget] at hb'; exact r.dom b' c' hb', by simpa using r.gn, r.glob, fun b' c' hb' => by rw [hget] at hb'; exact r.brel b' c' hb',
            fun b1 b2 c1 c2 hb1 hb2 => by rw [hget] at hb1 hb2; exact r.sep b1 b2 c1 c2 hb1 hb2⟩, ?_⟩
          exact ⟨ι.le_refl, rfl, rfl, rfl, Nat.le_refl _, fun _ _ _ => rfl, fun b' c' hb' hrw => by rw [hget] at hb'; exact .inr ⟨b', c', hb', hrw, rfl⟩, by simp, by simp; omega, fun b' _ _ => hget b'⟩
    · cases hw
  · cases hw

theorem store_ok {G : Nat} (r : Rel G ι h w) {b o : Nat} {vs : List AV} {rs : List Value} {h' : AH} (hw : writeCells h b o vs = some h') (hr : VRels ι vs rs) :
    ∃ w', (storeCells ⟨ι.blk b, ι.sh b + o, none⟩ rs).run P w = .ok () w' ∧ Rel G ι h' w' ∧ Stp ι ι h h' w w' := by
  obtain ⟨h1, h2, h3, h4, h5⟩ := write_rel r hw hr
  have := run_storeCells_cells (P := P) (ι.blk b) (ι.sh b + o) rs 0 w (by simpa using h1) (by simpa using h2) h3
  exact ⟨_, this, h4, h5⟩

/-! ### New rows -/

theorem new_ok {G : Nat} (r : Rel G ι h w) (e : TypeId) {cs : List AV} {arr : Array Value} (hr : ∀ (i : Nat) (c : AV), cs[i]? = some c → ∃ v, arr[i]? = some v ∧ VRel ι c v) (hsp : ∀ (j : Nat) (v : Value), cs.length ≤ j → arr[j]? = some v → Spare v) :
    Rel G (ι.add w.heap.size 0 arr.size e) (h.push (.cells cs false)) (w.alloc (.cells arr e)) ∧ Stp ι (ι.add w.heap.size 0 arr.size e) h (h.push (.cells cs false)) w (w.alloc (.cells arr e)) := by
  refine r.push (.cells cs false) (.cells arr e) arr.size e trivial ?_
  have hn : ι.n = h.n := r.n
  refine ⟨arr, e, (0, 0), ?_, ?_, fun i c hc => ?_, fun _ => ⟨fun j h1 h2 => by omega, fun j v hj hv => hsp j v (by rw [← hn] at hj; simpa using hj) hv⟩, by rw [← hn]; simp⟩
  · rw [← hn]; simp only [Emb.add_blk]; exact heap_alloc_new w _
  · rw [← hn]; simp
  · obtain ⟨v, h1, h2⟩ := hr i c hc
    exact ⟨v, by rw [← hn]; simpa using h1, h2.mono (ι.le_add _ _ _ _)⟩

theorem new_rel {G : Nat} (r : Rel G ι h w) (e : TypeId) {cs : List AV} {arr : Array Value} (hr : VRels ι cs arr.toList) :
    Rel G (ι.add w.heap.size 0 arr.size e) (h.push (.cells cs false)) (w.alloc (.cells arr e)) ∧ Stp ι (ι.add w.heap.size 0 arr.size e) h (h.push (.cells cs false)) w (w.alloc (.cells arr e)) :=
  new_ok r e (fun i c hc => by
    obtain ⟨v, h1, h2⟩ := hr.get i c hc
    exact ⟨v, by rw [← Array.getElem?_toList]; exact h1, h2⟩) fun j v hj hv => by
    have h1 := hr.length
    have h2 := (Array.getElem?_eq_some_iff.1 hv).1
    simp at h1
    omega

theorem new_ptr {G : Nat} (r : Rel G ι h w) (z t : Nat) : VRel (ι.add w.heap.size 0 z t) (.ptr (some (h.n, 0))) (.pointer (some ⟨w.heap.size, 0, none⟩)) := by
  simp only [VRel, ← r.n]
  exact ⟨by simp, by simp⟩
end
end Go.Fs
