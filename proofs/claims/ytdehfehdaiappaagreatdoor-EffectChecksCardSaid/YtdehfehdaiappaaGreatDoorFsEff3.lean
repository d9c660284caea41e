/- append: whatever the capacity, the abstract machine's row. -/
import Derived.Test.YtdehfehdaiappaaGreatDoorFsEff2
namespace Go.Fs
section
variable {P : Program} {ι : Emb} {h : AH} {w : World}

/-- A block of which nothing is known any more. -/
theorem kill_ok {G : Nat} (r : Rel G ι h w) {b : Nat} {c : Blk} (hb : h.get b = some c) : Rel G ι (h.set b .dead) w ∧ Stp ι ι h (h.set b .dead) w w := by
  refine ⟨⟨r.n, fun b' c' hb' => ?_, r.gn, r.glob, fun b' c' hb' => ?_, fun b1 b2 c1 c2 h1 h2 hne hrw hlv => ?_⟩, ?_⟩
  · rw [Hp.get_set] at hb'
    split at hb'
    · rename_i he; rw [he]; exact r.dom b c hb
    · exact r.dom b' c' hb'
  · rw [Hp.get_set] at hb'
    split at hb'
    · cases hb'; trivial
    · exact r.brel b' c' hb'
  · rw [Hp.get_set] at h1 h2
    split at h1
    · cases h1; exact hrw.elim
    · split at h2
      · cases h2; exact hlv.elim
      · exact r.sep b1 b2 c1 c2 h1 h2 hne hrw hlv
  · refine ⟨ι.le_refl, rfl, rfl, rfl, Nat.le_refl _, fun _ _ _ => rfl, fun b' c' hb' hrw => ?_, by simp, by simp; omega, fun b' h5 _ => ?_⟩
    · rw [Hp.get_set] at hb'
      split at hb'
      · cases hb'; exact hrw.elim
      · exact .inr ⟨b', c', hb', hrw, rfl⟩
    · simp at h5
      exact Hp.get_set_ne _ _ _ _ (by omega)

/-- The old row goes on in place: the new block is the same real one. -/
theorem onward {G : Nat} (r : Rel G ι h w) {b o : Nat} {c new : List AV} {rnew : List Value} (hb : h.get b = some (.cells c false)) (ho : o ≤ c.length) (hone : new.all AV.one = true) (hr : VRels ι new rnew)
    (hfit : ι.sh b + c.length + rnew.length ≤ ι.size b) :
    ∃ w', (storeCells ⟨ι.blk b, ι.sh b + c.length, none⟩ rnew).run P w = .ok () w' ∧
      Rel G (ι.add (ι.blk b) (ι.sh b + o) (ι.size b) (ι.ty b)) ((h.set b .dead).push (.cells (c.drop o ++ new) false)) w' ∧
      Stp ι (ι.add (ι.blk b) (ι.sh b + o) (ι.size b) (ι.ty b)) h ((h.set b .dead).push (.cells (c.drop o ++ new) false)) w w' := by
  obtain ⟨arr, e, fr, h1, h2, h3, h4, h4'⟩ := r.brel b _ hb
  have hfz := (h4 rfl).1
  rw [h2] at hfit
  obtain ⟨⟨arr', g1, g2⟩, g3, g4, g5, g6, g7⟩ := setCells_block (ι.blk b) e fr rnew (ι.sh b + c.length) w arr h1 hfit
  have hasz : arr'.size = arr.size := by
    have := congrArg List.length g2
    simp at this
    omega
  have hst := run_storeCells_cells (P := P) (ι.blk b) (ι.sh b + c.length) rnew 0 w
    (fun j hj => by simp [World.cell?, h1, show ι.sh b + c.length + j < arr.size by omega])
    (fun j hj => by
      simp only [World.frozen?, h1, Bool.and_eq_false_iff, decide_eq_false_iff_not]
      by_cases hlo : fr.1 ≤ ι.sh b + c.length + 0 + j
      · right; intro hhi; have := hfz _ hlo hhi; omega
      · exact .inl hlo) (ones_of hr hone)
  refine ⟨_, hst, ?_⟩
  simp only [Nat.add_zero]
  have hn := r.n
  have hbn := r.dom b _ hb
  have hadd : ∀ b', b' ≠ h.n → (ι.add (ι.blk b) (ι.sh b + o) (ι.size b) (ι.ty b)).blk b' = ι.blk b' := fun b' hb' => by simp [Emb.add, hn, hb']
  have hself : (ι.add (ι.blk b) (ι.sh b + o) (ι.size b) (ι.ty b)).blk h.n = ι.blk b := by rw [← hn]; simp
  have hget : ∀ b' c', ((h.set b .dead).push (.cells (c.drop o ++ new) false)).get b' = some c' → (b' = h.n ∧ c' = .cells (c.drop o ++ new) false) ∨ (b' ≠ h.n ∧ b' = b ∧ c' = .dead) ∨ (b' ≠ h.n ∧ b' ≠ b ∧ h.get b' = some c') := fun b' c' hb' => by
    rw [Hp.get_push] at hb'
    by_cases he : b' = (h.set b .dead).n
    · rw [if_pos he] at hb'; cases hb'; exact .inl ⟨he, rfl⟩
    · rw [if_neg he, Hp.get_set] at hb'
      by_cases he2 : b' = b
      · rw [if_pos he2] at hb'; cases hb'; exact .inr (.inl ⟨he, he2, rfl⟩)
      · rw [if_neg he2] at hb'; exact .inr (.inr ⟨he, he2, hb'⟩)
  refine ⟨⟨by simp [hn], fun b' c' hb' => ?_, Nat.le_succ_of_le r.gn, fun g hg => ?_, fun b' c' hb' => ?_, fun b1 b2 c1 c2 hb1 hb2 hne hrw hlv => ?_⟩, ?_⟩
  · rcases hget b' c' hb' with ⟨he, _⟩ | ⟨_, he, _⟩ | ⟨_, _, hb0⟩
    · simp [he]
    · simp; omega
    · have := r.dom b' c' hb0; simp; omega
  · have := r.gn
    have hg1 := r.glob g hg
    simp [Emb.add, show g ≠ ι.n by omega, hg1]
  · rcases hget b' c' hb' with ⟨he, rfl⟩ | ⟨_, _, rfl⟩ | ⟨hne1, hne2, hb0⟩
    · rw [he]
      refine ⟨arr', e, fr, by rw [hself]; exact g1, by rw [← hn]; simp [h2, hasz], fun i x hx => ?_, fun _ => ⟨fun j hlo hhi => by rw [hasz]; exact hfz j hlo hhi, fun j v hj hv => ?_⟩, by rw [← hn]; simp [h4']⟩
      rotate_left
      · rw [← hn] at hj
        simp only [Emb.add_sh, List.length_append, List.length_drop] at hj
        have hlr := hr.length
        refine (h4 rfl).2 j v (by omega) ?_
        rw [← Array.getElem?_toList, g2, List.getElem?_append_right (by simp; omega)] at hv
        simp only [List.length_append, List.length_take, Array.length_toList, List.getElem?_drop] at hv
        rw [← Array.getElem?_toList, ← hv]
        congr 1
        omega
      have hsh : (ι.add (ι.blk b) (ι.sh b + o) (ι.size b) (ι.ty b)).sh h.n = ι.sh b + o := by rw [← hn]; simp
      rw [hsh, ← Array.getElem?_toList, g2]
      have hA : (arr.toList.take (ι.sh b + c.length)).length = ι.sh b + c.length := by simp; omega
      by_cases hi : i < (c.drop o).length
      · rw [List.getElem?_append_left hi, List.getElem?_drop] at hx
        obtain ⟨v, h5, h6⟩ := h3 (o + i) x hx
        refine ⟨v, ?_, h6.mono (ι.le_add _ _ _ _)⟩
        simp only [List.length_drop] at hi
        rw [List.append_assoc, List.getElem?_append_left (by omega), List.getElem?_take, if_pos (by omega), Array.getElem?_toList, Nat.add_assoc]
        exact h5
      · rw [List.getElem?_append_right (by omega)] at hx
        obtain ⟨v, h5, h6⟩ := hr.get _ _ hx
        refine ⟨v, ?_, h6.mono (ι.le_add _ _ _ _)⟩
        simp only [List.length_drop] at hi h5
        have hlt := (List.getElem?_eq_some_iff.1 h5).1
        rw [List.append_assoc, List.getElem?_append_right (by omega), hA, List.getElem?_append_left (by omega)]
        rw [← h5]
        congr 1
        omega
    · trivial
    · have hb1 := r.dom b' c' hb0
      exact (r.brel b' c' hb0).mono (by omega) (ι.le_add _ _ _ _) fun hl => g3 _ fun he => r.sep b b' _ c' hb hb0 (Ne.symm hne2) rfl hl he.symm
  · rcases hget b1 c1 hb1 with ⟨he1, rfl⟩ | ⟨_, _, rfl⟩ | ⟨hn1, hne1, hb1'⟩
    · rcases hget b2 c2 hb2 with ⟨he2, rfl⟩ | ⟨_, _, rfl⟩ | ⟨hn2, hne2, hb2'⟩
      · omega
      · exact hlv.elim
      · rw [he1, hself, hadd b2 hn2]
        exact r.sep b b2 _ c2 hb hb2' (Ne.symm hne2) rfl hlv
    · exact hrw.elim
    · rcases hget b2 c2 hb2 with ⟨he2, rfl⟩ | ⟨_, _, rfl⟩ | ⟨hn2, hne2, hb2'⟩
      · rw [he2, hself, hadd b1 hn1]
        exact r.sep b1 b c1 _ hb1' hb hne1 hrw trivial
      · exact hlv.elim
      · rw [hadd b1 hn1, hadd b2 hn2]
        exact r.sep b1 b2 c1 c2 hb1' hb2' hne hrw hlv
  · refine ⟨ι.le_add _ _ _ _, g6, g5, g7, by omega, fun k hk hnn => g3 k (fun he => hnn b _ hb rfl he.symm), fun b' c' hb' hrw => ?_, by simp, by simp; omega, fun b' h5 h6 => ?_⟩
    · rcases hget b' c' hb' with ⟨he, _⟩ | ⟨_, _, rfl⟩ | ⟨hn2, _, hb0⟩
      · exact .inr ⟨b, _, hb, rfl, by rw [he, hself]⟩
      · exact hrw.elim
      · exact .inr ⟨b', c', hb0, hrw, (hadd b' hn2).symm⟩
    · simp at h5
      rw [Hp.get_push_ne _ _ _ (by simp; omega), Hp.get_set_ne _ _ _ _ (by omega)]

/-- The row that an append has made is of the element type. -/
def NewT (e : TypeId) (s : AV) (h : AH) (ι' : Emb) (h' : AH) : Prop := h'.n = h.n + 1 → typed h e s = true → ι'.ty h.n = e ∧ ι'.sh h.n = 0

theorem NewT.same {e : TypeId} {s : AV} {h h' : AH} {ι' : Emb} (hn : h'.n = h.n) : NewT e s h ι' h' := fun h1 _ => by omega

theorem write_n {h h' : AH} {b o : Nat} {vs : List AV} (hw : writeCells h b o vs = some h') : h'.n = h.n := by
  unfold writeCells at hw
  split at hw
  · split at hw
    · cases hw; rfl
    · cases hw
  · cases hw

theorem zeroCells_spare {zc : Array Value} (hz : ∀ (j : Nat) (v : Value), zc[j]? = some v → Spare v) {n j : Nat} {v : Value} (hv : (Builtin.zeroCells zc n)[j]? = some v) : Spare v := by
  unfold Builtin.zeroCells at hv
  rw [Array.getElem?_map, Array.getElem?_range] at hv
  split at hv
  · rename_i hlt
    simp only [Option.map_some, Option.some.injEq] at hv
    subst hv
    have hp : 0 < zc.size := by
      rcases Nat.eq_zero_or_pos zc.size with h0 | h0
      · rw [h0, Nat.mul_zero] at hlt; omega
      · exact h0
    have hm : j % zc.size < zc.size := Nat.mod_lt _ hp
    refine hz (j % zc.size) _ ?_
    rw [getElem!_pos zc _ hm]
    exact Array.getElem?_eq_getElem hm
  · cases hv

/-- What the model's append does with operands that are read: in place, or in a new row. -/
structure AppRuns (P : Program) (w : World) (e : TypeId) (i : TypeInfo) (z : Value) (S : Value → Sem Value) (n : Nat) (new : Array Value) : Prop where
  pos : 0 < i.size
  zs : z.cells.size = i.size
  zv : ∀ (j : Nat) (v : Value), z.cells[j]? = some v → Spare v
  room : ∀ (base : Option Addr) (sLen sCap : Nat) (w' : World), sLen + n ≤ sCap →
    (match base with | some a => (storeCells (a.add (sLen * i.size)) new.toList).run P w = .ok () w' | none => w' = w) →
    (S (.slice base sLen sCap)).run P w = .ok (.slice base (sLen + n) sCap) w'
  grow : ∀ (base : Option Addr) (sLen sCap : Nat) (old : Array Value), (Builtin.firstCells i.size sLen (.slice base sLen sCap)).run P w.drew = .ok old w.drew →
    sCap < sLen + n → (sLen + n) * i.bytes ≤ 140737488355328 → sLen + n ≤ 1152921504606846976 →
    (S (.slice base sLen sCap)).run P w =
      .ok (.slice (some ⟨w.heap.size, 0, none⟩) (sLen + n) (grownCap w (sLen + n) sCap e)) (w.drew.alloc (.cells (old ++ new ++ Builtin.zeroCells z.cells (grownCap w (sLen + n) sCap e - (sLen + n))) e))

theorem append_coreT {e : TypeId} {i : TypeInfo} {z : Value} {S : Value → Sem Value} {n : Nat} {new : List AV} {anew : Array Value} (T : AppRuns P w e i z S n anew) {s v : AV} {rs : Value} {h' : AH}
    (r : Rel P.globals.size ι h w) (hs : VRel ι s rs) (hrn : VRels ι new anew.toList) (hsn : anew.size = n * i.size) (ha : appendCore i.size i.bytes s n new h = some (v, h')) :
    ∃ ι' rv w', (S rs).run P w = .ok rv w' ∧ VRel ι' v rv ∧ Rel P.globals.size ι' h' w' ∧ Stp ι ι' h h' w w' ∧ NewT e s h ι' h' := by
  unfold appendCore at ha
  split at ha
  · rename_i base sLen cap
    simp only [Option.bind_eq_some_iff] at ha
    obtain ⟨old, hold, ha⟩ := ha
    have hls : lenOf (.slice base sLen cap) = some sLen := rfl
    obtain ⟨aold, hfo, hro, hlold⟩ := elems_ok' r hs hls hold sLen (Nat.le_refl _)
    rw [take_all hlold] at hro
    have hso : aold.size = sLen * i.size := by have := hro.length; simp at this; omega
    -- a new row, in a heap that stands to the same world
    have grow : ∀ (q : Option Addr) (C : Nat) (hh : AH), rs = .slice q sLen C → C < sLen + n → hh.n = h.n → Rel P.globals.size ι hh w → Stp ι ι h hh w w →
        (if (sLen + n) * i.bytes ≤ 140737488355328 ∧ sLen + n ≤ 1152921504606846976 then some ((AV.slice (some (hh.n, 0)) (sLen + n) (.opn i.size)), hh.push (.cells (old ++ new) false)) else none) = some (v, h') →
        ∃ ι' rv w', (S rs).run P w = .ok rv w' ∧ VRel ι' v rv ∧ Rel P.globals.size ι' h' w' ∧ Stp ι ι' h h' w w' ∧ NewT e (.slice base sLen cap) h ι' h' := fun q C hh hq hC hhn rh sh hif => by
      split at hif
      · rename_i hb
        cases hif
        have hrun := T.grow q sLen C aold (by rw [← hq]; exact hfo w.drew (fun _ => rfl)) hC hb.1 hb.2
        rw [← hq] at hrun
        have hge := grownCap_ge w (sLen + n) C e
        have hcell : VRels ι (old ++ new) (aold.toList ++ anew.toList) := hro.append hrn
        obtain ⟨k1, k2⟩ := new_ok (G := P.globals.size) (rh.drew) e (cs := old ++ new) (arr := aold ++ anew ++ Builtin.zeroCells z.cells (grownCap w (sLen + n) C e - (sLen + n))) (fun j c hc => by
          obtain ⟨rv, h5, h6⟩ := hcell.get j c hc
          refine ⟨rv, ?_, h6⟩
          have hlt := (List.getElem?_eq_some_iff.1 h5).1
          rw [← Array.getElem?_toList]
          simp only [Array.toList_append]
          rw [List.getElem?_append_left hlt]
          exact h5) (fun j v hj hv => by
          have hl := hcell.length
          simp only [List.length_append] at hl hj
          rw [Array.getElem?_append_right (by simp only [Array.size_append]; simp only [Array.length_toList] at hl; omega)] at hv
          exact zeroCells_spare T.zv hv)
        refine ⟨_, _, _, hrun, ?_, k1, sh.trans ((Stp.drew ι hh w).trans k2), fun _ _ => ⟨by rw [← hhn, ← rh.n]; simp, by rw [← hhn, ← rh.n]; simp⟩⟩
        simp only [VRel]
        have hnn : ι.n = hh.n := rh.n
        have hsz : w.drew.heap.size = w.heap.size := rfl
        refine ⟨by rw [← hnn]; simp, T.pos, 0, grownCap w (sLen + n) C e, by rw [← hnn]; simp [hsz], grownCap_le_maxLen w _ _ _ (by have : maxLen = 9223372036854775807 := rfl; omega), .inl ⟨by rw [← hnn]; simp, hge, ?_⟩⟩
        rw [← hnn]
        simp only [Emb.add_size, Array.size_append, size_zeroCells, T.zs, hso, hsn, ← Nat.add_mul]
        rw [Nat.zero_add]
        congr 1
        omega
      · cases hif
    cases cap with
    | exact c =>
      cases base with
      | none =>
        simp only at ha
        have hs' := hs
        simp only [VRel] at hs'
        obtain ⟨h1, h2, h3⟩ := hs'
        split at ha
        · rename_i hle
          cases ha
          have hn0 : n = 0 := by omega
          have hrun := T.room none 0 0 w (by omega) rfl
          rw [h3]
          exact ⟨ι, _, w, hrun, by rw [hn0]; exact h3 ▸ hs, r, Stp.refl _ _ _, NewT.same rfl⟩
        · exact grow none 0 h (by rw [h3, h1]) (by omega) rfl r (Stp.refl _ _ _) ha
      | some p =>
        obtain ⟨b, o⟩ := p
        simp only at ha
        have hs' := hs
        simp only [VRel] at hs'
        obtain ⟨h1, h2, A, h3, hA⟩ := hs'
        split at ha
        · rename_i hle
          split at ha
          · rename_i hn0
            cases ha
            subst hn0
            have he : anew.toList = [] := List.eq_nil_of_length_eq_zero (by rw [Array.length_toList, hsn, Nat.zero_mul])
            have hrun := T.room (some A) sLen c w hle (by simp [he, storeCells])
            rw [← h3] at hrun
            exact ⟨ι, _, w, hrun, by simpa using (h3 ▸ hs), r, Stp.refl _ _ _, NewT.same rfl⟩
          · simp only [Option.map_eq_some_iff] at ha
            obtain ⟨h2', hw, he⟩ := ha
            cases he
            obtain ⟨w', hst, k1, k2⟩ := store_ok (P := P) r hw hrn
            have hA' := hA (by omega)
            subst hA'
            have hrun := T.room (some ⟨ι.blk b, ι.sh b + o, none⟩) sLen c w' hle (by
              simp only [Addr.add_lit, Nat.add_assoc]; exact hst)
            rw [← h3] at hrun
            exact ⟨ι, _, w', hrun, by simp only [VRel]; exact ⟨h1, hle, _, rfl, fun _ => rfl⟩, k1, k2, NewT.same (write_n hw)⟩
        · exact grow _ c h h3 (by omega) rfl r (Stp.refl _ _ _) ha
    | opn e' =>
      cases base with
      | none => simp at ha
      | some p =>
        obtain ⟨b, o⟩ := p
        simp only at ha
        have hs' := hs
        simp only [VRel] at hs'
        obtain ⟨h1, hpos, o', c', h3, hmx, hcase⟩ := hs'
        have hlc : sLen ≤ c' := by rcases hcase with ⟨_, h0, _⟩ | ⟨h0, h00⟩ <;> omega
        split at ha
        · rename_i hn0
          cases ha
          subst hn0
          have he : anew.toList = [] := List.eq_nil_of_length_eq_zero (by rw [Array.length_toList, hsn, Nat.zero_mul])
          have hrun := T.room (some ⟨ι.blk b, o', none⟩) sLen c' w (by omega) (by simp [he, storeCells])
          rw [← h3] at hrun
          exact ⟨ι, _, w, hrun, by simpa using (h3 ▸ hs), r, Stp.refl _ _ _, NewT.same rfl⟩
        · rename_i hn0
          split at ha
          · rename_i hes
            subst hes
            split at ha
            · rename_i cs hb
              split at ha
              · rename_i hin
                simp only [Option.map_eq_some_iff] at ha
                obtain ⟨h2', hw, he⟩ := ha
                cases he
                obtain ⟨w', hst, k1, k2⟩ := store_ok (P := P) r hw hrn
                have hpos' : 0 < n * i.size := Nat.mul_pos (by omega) hpos
                have hmul : (sLen + n) * i.size = sLen * i.size + n * i.size := Nat.add_mul _ _ _
                have hfits : ι.sh b + cs.length ≤ ι.size b := by
                  obtain ⟨arr, e, fr, g1, g2, g3, g4⟩ := r.brel b _ hb
                  obtain ⟨x, hx1, hx2⟩ := g3 (cs.length - 1) _ (List.getElem?_eq_getElem (by omega))
                  have := (Array.getElem?_eq_some_iff.1 hx1).1
                  omega
                rcases hcase with ⟨ho', _, hsz⟩ | ⟨h0, h00, h000⟩
                · have hroom : sLen + n ≤ c' := by
                    refine Nat.le_of_not_lt fun hlt => ?_
                    have : (c' + 1) * i.size ≤ (sLen + n) * i.size := Nat.mul_le_mul_right _ hlt
                    rw [Nat.add_mul] at this
                    omega
                  have hrun := T.room (some ⟨ι.blk b, o', none⟩) sLen c' w' hroom (by
                    simp only [Addr.add_lit]
                    rw [ho', Nat.add_assoc]; exact hst)
                  rw [← h3] at hrun
                  refine ⟨ι, _, w', hrun, ?_, k1, k2, NewT.same (write_n hw)⟩
                  simp only [VRel]
                  exact ⟨h1, hpos, o', c', rfl, hmx, .inl ⟨ho', hroom, hsz⟩⟩
                · omega
              split at ha
              · rename_i hend
                obtain ⟨hend, hone⟩ := hend
                by_cases hroom : sLen + n ≤ c'
                · split at ha
                  · rename_i hbd
                    cases ha
                    rcases hcase with ⟨ho', _, hsz⟩ | ⟨h0, h00⟩
                    · have hofit : o ≤ cs.length := by omega
                      have holdeq : old = cs.drop o := by
                        simp only [elemsOf, readCells, hb, cut] at hold
                        by_cases hz : sLen = 0
                        · rw [if_pos hz] at hold
                          cases hold
                          rw [hz, Nat.zero_mul, Nat.add_zero] at hend
                          rw [hend, List.drop_length]
                        rw [if_neg hz] at hold
                        split at hold
                        · cases hold
                          rw [List.take_of_length_le (by rw [List.length_drop]; omega)]
                        · cases hold
                      obtain ⟨w', hst, k1, k2⟩ := onward (P := P) r hb hofit hone hrn (by
                        simp only [Array.length_toList, hsn]
                        rw [← hsz, ho']
                        have : (sLen + n) * i.size ≤ c' * i.size := Nat.mul_le_mul_right _ hroom
                        rw [Nat.add_mul] at this
                        omega)
                      have hrun := T.room (some ⟨ι.blk b, o', none⟩) sLen c' w' hroom (by
                        simp only [Addr.add_lit]
                        rw [show o' + sLen * i.size = ι.sh b + cs.length by omega]; exact hst)
                      rw [← h3] at hrun
                      rw [holdeq]
                      have hnn : ι.n = h.n := r.n
                      refine ⟨_, _, w', hrun, ?_, k1, k2, fun _ ht => ?_⟩
                      rotate_left
                      · cases o with
                        | succ o => simp [typed] at ht
                        | zero =>
                          simp only [typed] at ht
                          split at ht
                          · rename_i b2 t2 hb2
                            simp only [Bool.and_eq_true, beq_iff_eq] at ht
                            obtain ⟨g1, g2, g3⟩ := r.brel _ _ hb2
                            rw [ht.1] at g2 g3
                            exact ⟨by rw [← hnn]; simp [g2, ht.2], by rw [← hnn]; simp [g3]⟩
                          · cases ht
                      simp only [VRel, Hp.n_set]
                      refine ⟨by rw [← hnn]; simp, T.pos, o', c', by rw [← hnn]; simp, hmx, .inl ⟨by rw [← hnn]; simp [ho'], hroom, by rw [← hnn]; simp [hsz]⟩⟩
                    · omega
                  · cases ha
                · obtain ⟨k1, k2⟩ := kill_ok r hb
                  exact grow _ c' (h.set b .dead) h3 (by omega) rfl k1 k2 ha
              · cases ha
            · cases ha
          · cases ha
  · cases ha

theorem append_core {e : TypeId} {i : TypeInfo} {z : Value} {S : Value → Sem Value} {n : Nat} {new : List AV} {anew : Array Value} (T : AppRuns P w e i z S n anew) {s v : AV} {rs : Value} {h' : AH}
    (r : Rel P.globals.size ι h w) (hs : VRel ι s rs) (hrn : VRels ι new anew.toList) (hsn : anew.size = n * i.size) (ha : appendCore i.size i.bytes s n new h = some (v, h')) :
    ∃ ι' rv w', (S rs).run P w = .ok rv w' ∧ VRel ι' v rv ∧ Rel P.globals.size ι' h' w' ∧ Stp ι ι' h h' w w' := by
  obtain ⟨ι', rv, w', h1, h2, h3, h4, _⟩ := append_coreT T r hs hrn hsn ha
  exact ⟨ι', rv, w', h1, h2, h3, h4⟩

theorem append_soundT {ats : Array TypeId} {e : TypeId} {i : TypeInfo} {z : Value} (T : AppT P ats e i z) (type : TypeId) {s x v : AV} {rs rx : Value} {h' : AH}
    (r : Rel P.globals.size ι h w) (hs : VRel ι s rs) (hx : VRel ι x rx) (ha : appendRun i.size i.bytes s x h = some (v, h')) :
    ∃ ι' rv w', (Builtin.append_ ats type #[rs, rx]).run P w = .ok rv w' ∧ VRel ι' v rv ∧ Rel P.globals.size ι' h' w' ∧ Stp ι ι' h h' w w' ∧ NewT e s h ι' h' := by
  unfold appendRun at ha
  simp only [Option.bind_eq_some_iff] at ha
  obtain ⟨n, hn, new, hnew, ha⟩ := ha
  obtain ⟨anew, hfn, hrn, hlnew⟩ := elems_ok' r hx hn hnew n (Nat.le_refl _)
  rw [take_all hlnew] at hrn
  have hlen := lenOf_ok (P := P) hx hn w
  have hsn : anew.size = n * i.size := by have := hrn.length; simp at this; omega
  exact append_coreT (S := fun rs => Builtin.append_ ats type #[rs, rx]) ⟨T.pos, T.zs, T.zv, fun base sLen sCap w' hroom hst => append_room T type hlen (hfn w (fun _ => rfl)) hroom hst,
    fun base sLen sCap old hold hg hb h63 => append_grow T type hlen (hfn w.drew (fun _ => rfl)) hold hg hb h63⟩ r hs hrn hsn ha

theorem append_sound {ats : Array TypeId} {e : TypeId} {i : TypeInfo} {z : Value} (T : AppT P ats e i z) (type : TypeId) {s x v : AV} {rs rx : Value} {h' : AH}
    (r : Rel P.globals.size ι h w) (hs : VRel ι s rs) (hx : VRel ι x rx) (ha : appendRun i.size i.bytes s x h = some (v, h')) :
    ∃ ι' rv w', (Builtin.append_ ats type #[rs, rx]).run P w = .ok rv w' ∧ VRel ι' v rv ∧ Rel P.globals.size ι' h' w' ∧ Stp ι ι' h h' w w' := by
  obtain ⟨ι', rv, w', h1, h2, h3, h4, _⟩ := append_soundT T type r hs hx ha
  exact ⟨ι', rv, w', h1, h2, h3, h4⟩
end
end Go.Fs
