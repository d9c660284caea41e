/- The abstract machine of the Fs texts, part 3: what it runs, and that each of its runs is one of the program. -/
import Derived.Test.YtlppecefalblmaaGreatDoorFz01
import Derived.Lib.UnsafeStr
section
/- append: whatever the capacity, the abstract machine's row. -/
namespace Go.Fs
section
variable {P : Program} {ι : Emb} {h : AH} {w : World}
theorem kill_ok {G : Nat} (r : Rel G ι h w) {b : Nat} {c : Blk} (hb : h.get b = some c) : Rel G ι (h.set b .dead) w ∧ Stp ι ι h (h.set b .dead) w w := by
 refine ⟨⟨r.n, fun b' c' hb' => ?_, r.gn, r.glob, fun b' c' hb' => ?_, fun b1 b2 c1 c2 h1 h2 hne hrw hlv => ?_⟩, ?_⟩
 · rw [Hp.get_set] at hb'
   split at hb'
   · rename_i he; rw [he]; exact r.dom b c hb
   · exact r.dom b' c' hb'
 · rw [Hp.get_set] at hb'
   split at hb'
   · cases hb'; trivial
   · exact r.brel b' c' hb'
 · rw [Hp.get_set] at h1 h2
   split at h1
   · cases h1; exact hrw.elim
   · split at h2
     · cases h2; exact hlv.elim
     · exact r.sep b1 b2 c1 c2 h1 h2 hne hrw hlv
 · refine ⟨ι.le_refl, rfl, rfl, rfl, Nat.le_refl _, fun _ _ _ => rfl, fun b' c' hb' hrw => ?_, by simp, by simp; omega, fun b' h5 _ => ?_⟩
   · rw [Hp.get_set] at hb'
     split at hb'
     · cases hb'; exact hrw.elim
     · exact .inr ⟨b', c', hb', hrw, rfl⟩
   · simp at h5
     exact Hp.get_set_ne _ _ _ _ (by omega)
theorem onward {G : Nat} (r : Rel G ι h w) {b o : Nat} {c new : List AV} {rnew : List Value} (hb : h.get b = some (.cells c false)) (ho : o ≤ c.length) (hone : new.all AV.one = true) (hr : VRels ι new rnew)
    (hfit : ι.sh b + c.length + rnew.length ≤ ι.size b) :
    ∃ w', (storeCells ⟨ι.blk b, ι.sh b + c.length, none⟩ rnew).run P w = .ok () w' ∧
     Rel G (ι.add (ι.blk b) (ι.sh b + o) (ι.size b) (ι.ty b)) ((h.set b .dead).push (.cells (c.drop o ++ new) false)) w' ∧
     Stp ι (ι.add (ι.blk b) (ι.sh b + o) (ι.size b) (ι.ty b)) h ((h.set b .dead).push (.cells (c.drop o ++ new) false)) w w' := by
 obtain ⟨arr, e, fr, h1, h2, h3, h4, h4'⟩ := r.brel b _ hb
 have hfz := (h4 rfl).1
 rw [h2] at hfit
 obtain ⟨⟨arr', g1, g2⟩, g3, g4, g5, g6, g7⟩ := setCells_block (ι.blk b) e fr rnew (ι.sh b + c.length) w arr h1 hfit
 have hasz : arr'.size = arr.size := by
  have := congrArg List.length g2
  simp at this
  omega
 have hst := run_storeCells_cells (P := P) (ι.blk b) (ι.sh b + c.length) rnew 0 w
  (fun j hj => by simp [World.cell?, h1, show ι.sh b + c.length + j < arr.size by omega])
  (fun j hj => by
    simp only [World.frozen?, h1, Bool.and_eq_false_iff, decide_eq_false_iff_not]
    by_cases hlo : fr.1 ≤ ι.sh b + c.length + 0 + j
    · right; intro hhi; have := hfz _ hlo hhi; omega
    · exact .inl hlo) (ones_of hr hone)
 refine ⟨_, hst, ?_⟩
 simp only [Nat.add_zero]
 have hn := r.n
 have hbn := r.dom b _ hb
 have hadd : ∀ b', b' ≠ h.n → (ι.add (ι.blk b) (ι.sh b + o) (ι.size b) (ι.ty b)).blk b' = ι.blk b' := fun b' hb' => by simp [Emb.add, hn, hb']
 have hself : (ι.add (ι.blk b) (ι.sh b + o) (ι.size b) (ι.ty b)).blk h.n = ι.blk b := by rw [← hn]; simp
 have hget : ∀ b' c', ((h.set b .dead).push (.cells (c.drop o ++ new) false)).get b' = some c' → (b' = h.n ∧ c' = .cells (c.drop o ++ new) false) ∨ (b' ≠ h.n ∧ b' = b ∧ c' = .dead) ∨ (b' ≠ h.n ∧ b' ≠ b ∧ h.get b' = some c') := fun b' c' hb' => by
  rw [Hp.get_push] at hb'
  by_cases he : b' = (h.set b .dead).n
  · rw [if_pos he] at hb'; cases hb'; exact .inl ⟨he, rfl⟩
  · rw [if_neg he, Hp.get_set] at hb'
    by_cases he2 : b' = b
    · rw [if_pos he2] at hb'; cases hb'; exact .inr (.inl ⟨he, he2, rfl⟩)
    · rw [if_neg he2] at hb'; exact .inr (.inr ⟨he, he2, hb'⟩)
 refine ⟨⟨by simp [hn], fun b' c' hb' => ?_, Nat.le_succ_of_le r.gn, fun g hg => ?_, fun b' c' hb' => ?_, fun b1 b2 c1 c2 hb1 hb2 hne hrw hlv => ?_⟩, ?_⟩
 · rcases hget b' c' hb' with ⟨he, _⟩ | ⟨_, he, _⟩ | ⟨_, _, hb0⟩
   · simp [he]
   · simp; omega
   · have := r.dom b' c' hb0; simp; omega
 · have := r.gn
   have hg1 := r.glob g hg
   simp [Emb.add, show g ≠ ι.n by omega, hg1]
 · rcases hget b' c' hb' with ⟨he, rfl⟩ | ⟨_, _, rfl⟩ | ⟨hne1, hne2, hb0⟩
   · rw [he]
     refine ⟨arr', e, fr, by rw [hself]; exact g1, by rw [← hn]; simp [h2, hasz], fun i x hx => ?_, fun _ => ⟨fun j hlo hhi => by rw [hasz]; exact hfz j hlo hhi, fun j v hj hv => ?_⟩, by rw [← hn]; simp [h4']⟩
     rotate_left
     · rw [← hn] at hj
       simp only [Emb.add_sh, List.length_append, List.length_drop] at hj
       have hlr := hr.length
       refine (h4 rfl).2 j v (by omega) ?_
       rw [← Array.getElem?_toList, g2, List.getElem?_append_right (by simp; omega)] at hv
       simp only [List.length_append, List.length_take, Array.length_toList, List.getElem?_drop] at hv
       rw [← Array.getElem?_toList, ← hv]
       congr 1
       omega
     have hsh : (ι.add (ι.blk b) (ι.sh b + o) (ι.size b) (ι.ty b)).sh h.n = ι.sh b + o := by rw [← hn]; simp
     rw [hsh, ← Array.getElem?_toList, g2]
     have hA : (arr.toList.take (ι.sh b + c.length)).length = ι.sh b + c.length := by simp; omega
     by_cases hi : i < (c.drop o).length
     · rw [List.getElem?_append_left hi, List.getElem?_drop] at hx
       obtain ⟨v, h5, h6⟩ := h3 (o + i) x hx
       refine ⟨v, ?_, h6.mono (ι.le_add _ _ _ _)⟩
       simp only [List.length_drop] at hi
       rw [List.append_assoc, List.getElem?_append_left (by omega), List.getElem?_take, if_pos (by omega), Array.getElem?_toList, Nat.add_assoc]
       exact h5
     · rw [List.getElem?_append_right (by omega)] at hx
       obtain ⟨v, h5, h6⟩ := hr.get _ _ hx
       refine ⟨v, ?_, h6.mono (ι.le_add _ _ _ _)⟩
       simp only [List.length_drop] at hi h5
       have hlt := (List.getElem?_eq_some_iff.1 h5).1
       rw [List.append_assoc, List.getElem?_append_right (by omega), hA, List.getElem?_append_left (by omega)]
       rw [← h5]
       congr 1
       omega
   · trivial
   · have hb1 := r.dom b' c' hb0
     exact (r.brel b' c' hb0).mono (by omega) (ι.le_add _ _ _ _) fun hl => g3 _ fun he => r.sep b b' _ c' hb hb0 (Ne.symm hne2) rfl hl he.symm
 · rcases hget b1 c1 hb1 with ⟨he1, rfl⟩ | ⟨_, _, rfl⟩ | ⟨hn1, hne1, hb1'⟩
   · rcases hget b2 c2 hb2 with ⟨he2, rfl⟩ | ⟨_, _, rfl⟩ | ⟨hn2, hne2, hb2'⟩
     · omega
     · exact hlv.elim
     · rw [he1, hself, hadd b2 hn2]
       exact r.sep b b2 _ c2 hb hb2' (Ne.symm hne2) rfl hlv
   · exact hrw.elim
   · rcases hget b2 c2 hb2 with ⟨he2, rfl⟩ | ⟨_, _, rfl⟩ | ⟨hn2, hne2, hb2'⟩
     · rw [he2, hself, hadd b1 hn1]
       exact r.sep b1 b c1 _ hb1' hb hne1 hrw trivial
     · exact hlv.elim
     · rw [hadd b1 hn1, hadd b2 hn2]
       exact r.sep b1 b2 c1 c2 hb1' hb2' hne hrw hlv
 · refine ⟨ι.le_add _ _ _ _, g6, g5, g7, by omega, fun k hk hnn => g3 k (fun he => hnn b _ hb rfl he.symm), fun b' c' hb' hrw => ?_, by simp, by simp; omega, fun b' h5 h6 => ?_⟩
   · rcases hget b' c' hb' with ⟨he, _⟩ | ⟨_, _, rfl⟩ | ⟨hn2, _, hb0⟩
     · exact .inr ⟨b, _, hb, rfl, by rw [he, hself]⟩
     · exact hrw.elim
     · exact .inr ⟨b', c', hb0, hrw, (hadd b' hn2).symm⟩
   · simp at h5
     rw [Hp.get_push_ne _ _ _ (by simp; omega), Hp.get_set_ne _ _ _ _ (by omega)]
def NewT (e : TypeId) (s : AV) (h : AH) (ι' : Emb) (h' : AH) : Prop := h'.n = h.n + 1 → typed h e s = true → ι'.ty h.n = e ∧ ι'.sh h.n = 0
theorem NewT.same {e : TypeId} {s : AV} {h h' : AH} {ι' : Emb} (hn : h'.n = h.n) : NewT e s h ι' h' := fun h1 _ => by omega
theorem write_n {h h' : AH} {b o : Nat} {vs : List AV} (hw : writeCells h b o vs = some h') : h'.n = h.n := by
 unfold writeCells at hw
 split at hw
 · split at hw
   · cases hw; rfl
   · cases hw
 · cases hw
theorem zeroCells_spare {zc : Array Value} (hz : ∀ (j : Nat) (v : Value), zc[j]? = some v → Spare v) {n j : Nat} {v : Value} (hv : (Builtin.zeroCells zc n)[j]? = some v) : Spare v := by
 unfold Builtin.zeroCells at hv
 rw [Array.getElem?_map, Array.getElem?_range] at hv
 split at hv
 · rename_i hlt
   simp only [Option.map_some, Option.some.injEq] at hv
   subst hv
   have hp : 0 < zc.size := by
    rcases Nat.eq_zero_or_pos zc.size with h0 | h0
    · rw [h0, Nat.mul_zero] at hlt; omega
    · exact h0
   have hm : j % zc.size < zc.size := Nat.mod_lt _ hp
   refine hz (j % zc.size) _ ?_
   rw [getElem!_pos zc _ hm]
   exact Array.getElem?_eq_getElem hm
 · cases hv
structure AppRuns (P : Program) (w : World) (e : TypeId) (i : TypeInfo) (z : Value) (S : Value → Sem Value) (n : Nat) (new : Array Value) : Prop where
 pos : 0 < i.size
 zs : z.cells.size = i.size
 zv : ∀ (j : Nat) (v : Value), z.cells[j]? = some v → Spare v
 room : ∀ (base : Option Addr) (sLen sCap : Nat) (w' : World), sLen + n ≤ sCap →
  (match base with | some a => (storeCells (a.add (sLen * i.size)) new.toList).run P w = .ok () w' | none => w' = w) →
  (S (.slice base sLen sCap)).run P w = .ok (.slice base (sLen + n) sCap) w'
 grow : ∀ (base : Option Addr) (sLen sCap : Nat) (old : Array Value), (Builtin.firstCells i.size sLen (.slice base sLen sCap)).run P w.drew = .ok old w.drew →
  sCap < sLen + n → (sLen + n) * i.bytes ≤ 140737488355328 → sLen + n ≤ 1152921504606846976 →
  (S (.slice base sLen sCap)).run P w =
    .ok (.slice (some ⟨w.heap.size, 0, none⟩) (sLen + n) (grownCap w (sLen + n) sCap e)) (w.drew.alloc (.cells (old ++ new ++ Builtin.zeroCells z.cells (grownCap w (sLen + n) sCap e - (sLen + n))) e))
theorem append_coreT {e : TypeId} {i : TypeInfo} {z : Value} {S : Value → Sem Value} {n : Nat} {new : List AV} {anew : Array Value} (T : AppRuns P w e i z S n anew) {s v : AV} {rs : Value} {h' : AH}
    (r : Rel P.globals.size ι h w) (hs : VRel ι s rs) (hrn : VRels ι new anew.toList) (hsn : anew.size = n * i.size) (ha : appendCore i.size i.bytes s n new h = some (v, h')) :
    ∃ ι' rv w', (S rs).run P w = .ok rv w' ∧ VRel ι' v rv ∧ Rel P.globals.size ι' h' w' ∧ Stp ι ι' h h' w w' ∧ NewT e s h ι' h' := by
 unfold appendCore at ha
 split at ha
 · rename_i base sLen cap
   simp only [Option.bind_eq_some_iff] at ha
   obtain ⟨old, hold, ha⟩ := ha
   have hls : lenOf (.slice base sLen cap) = some sLen := rfl
   obtain ⟨aold, hfo, hro, hlold⟩ := elems_ok' r hs hls hold sLen (Nat.le_refl _)
   rw [take_all hlold] at hro
   have hso : aold.size = sLen * i.size := by have := hro.length; simp at this; omega
   have grow : ∀ (q : Option Addr) (C : Nat) (hh : AH), rs = .slice q sLen C → C < sLen + n → hh.n = h.n → Rel P.globals.size ι hh w → Stp ι ι h hh w w →
       (if (sLen + n) * i.bytes ≤ 140737488355328 ∧ sLen + n ≤ 1152921504606846976 then some ((AV.slice (some (hh.n, 0)) (sLen + n) (.opn i.size)), hh.push (.cells (old ++ new) false)) else none) = some (v, h') →
       ∃ ι' rv w', (S rs).run P w = .ok rv w' ∧ VRel ι' v rv ∧ Rel P.globals.size ι' h' w' ∧ Stp ι ι' h h' w w' ∧ NewT e (.slice base sLen cap) h ι' h' := fun q C hh hq hC hhn rh sh hif => by
    split at hif
    · rename_i hb
      cases hif
      have hrun := T.grow q sLen C aold (by rw [← hq]; exact hfo w.drew (fun _ => rfl)) hC hb.1 hb.2
      rw [← hq] at hrun
      have hge := grownCap_ge w (sLen + n) C e
      have hcell : VRels ι (old ++ new) (aold.toList ++ anew.toList) := hro.append hrn
      obtain ⟨k1, k2⟩ := new_ok (G := P.globals.size) (rh.drew) e (cs := old ++ new) (arr := aold ++ anew ++ Builtin.zeroCells z.cells (grownCap w (sLen + n) C e - (sLen + n))) (fun j c hc => by
       obtain ⟨rv, h5, h6⟩ := hcell.get j c hc
       refine ⟨rv, ?_, h6⟩
       have hlt := (List.getElem?_eq_some_iff.1 h5).1
       rw [← Array.getElem?_toList]
       simp only [Array.toList_append]
       rw [List.getElem?_append_left hlt]
       exact h5) (fun j v hj hv => by
       have hl := hcell.length
       simp only [List.length_append] at hl hj
       rw [Array.getElem?_append_right (by simp only [Array.size_append]; simp only [Array.length_toList] at hl; omega)] at hv
       exact zeroCells_spare T.zv hv)
      refine ⟨_, _, _, hrun, ?_, k1, sh.trans ((Stp.drew ι hh w).trans k2), fun _ _ => ⟨by rw [← hhn, ← rh.n]; simp, by rw [← hhn, ← rh.n]; simp⟩⟩
      simp only [VRel]
      have hnn : ι.n = hh.n := rh.n
      have hsz : w.drew.heap.size = w.heap.size := rfl
      refine ⟨by rw [← hnn]; simp, T.pos, 0, grownCap w (sLen + n) C e, by rw [← hnn]; simp [hsz], grownCap_le_maxLen w _ _ _ (by have : maxLen = 9223372036854775807 := rfl; omega), .inl ⟨by rw [← hnn]; simp, hge, ?_⟩⟩
      rw [← hnn]
      simp only [Emb.add_size, Array.size_append, size_zeroCells, T.zs, hso, hsn, ← Nat.add_mul]
      rw [Nat.zero_add]
      congr 1
      omega
    · cases hif
   cases cap with
   | exact c =>
     cases base with
     | none =>
       simp only at ha
       have hs' := hs
       simp only [VRel] at hs'
       obtain ⟨h1, h2, h3⟩ := hs'
       split at ha
       · rename_i hle
         cases ha
         have hn0 : n = 0 := by omega
         have hrun := T.room none 0 0 w (by omega) rfl
         rw [h3]
         exact ⟨ι, _, w, hrun, by rw [hn0]; exact h3 ▸ hs, r, Stp.refl _ _ _, NewT.same rfl⟩
       · exact grow none 0 h (by rw [h3, h1]) (by omega) rfl r (Stp.refl _ _ _) ha
     | some p =>
       obtain ⟨b, o⟩ := p
       simp only at ha
       have hs' := hs
       simp only [VRel] at hs'
       obtain ⟨h1, h2, A, h3, hA⟩ := hs'
       split at ha
       · rename_i hle
         split at ha
         · rename_i hn0
           cases ha
           subst hn0
           have he : anew.toList = [] := List.eq_nil_of_length_eq_zero (by rw [Array.length_toList, hsn, Nat.zero_mul])
           have hrun := T.room (some A) sLen c w hle (by simp [he, storeCells])
           rw [← h3] at hrun
           exact ⟨ι, _, w, hrun, by simpa using (h3 ▸ hs), r, Stp.refl _ _ _, NewT.same rfl⟩
         · simp only [Option.map_eq_some_iff] at ha
           obtain ⟨h2', hw, he⟩ := ha
           cases he
           obtain ⟨w', hst, k1, k2⟩ := store_ok (P := P) r hw hrn
           have hA' := hA (by omega)
           subst hA'
           have hrun := T.room (some ⟨ι.blk b, ι.sh b + o, none⟩) sLen c w' hle (by
            simp only [Addr.add_lit, Nat.add_assoc]; exact hst)
           rw [← h3] at hrun
           exact ⟨ι, _, w', hrun, by simp only [VRel]; exact ⟨h1, hle, _, rfl, fun _ => rfl⟩, k1, k2, NewT.same (write_n hw)⟩
       · exact grow _ c h h3 (by omega) rfl r (Stp.refl _ _ _) ha
   | opn e' =>
     cases base with
     | none => simp at ha
     | some p =>
       obtain ⟨b, o⟩ := p
       simp only at ha
       have hs' := hs
       simp only [VRel] at hs'
       obtain ⟨h1, hpos, o', c', h3, hmx, hcase⟩ := hs'
       have hlc : sLen ≤ c' := by rcases hcase with ⟨_, h0, _⟩ | ⟨h0, h00⟩ <;> omega
       split at ha
       · rename_i hn0
         cases ha
         subst hn0
         have he : anew.toList = [] := List.eq_nil_of_length_eq_zero (by rw [Array.length_toList, hsn, Nat.zero_mul])
         have hrun := T.room (some ⟨ι.blk b, o', none⟩) sLen c' w (by omega) (by simp [he, storeCells])
         rw [← h3] at hrun
         exact ⟨ι, _, w, hrun, by simpa using (h3 ▸ hs), r, Stp.refl _ _ _, NewT.same rfl⟩
       · rename_i hn0
         split at ha
         · rename_i hes
           subst hes
           split at ha
           · rename_i cs hb
             split at ha
             · rename_i hin
               simp only [Option.map_eq_some_iff] at ha
               obtain ⟨h2', hw, he⟩ := ha
               cases he
               obtain ⟨w', hst, k1, k2⟩ := store_ok (P := P) r hw hrn
               have hpos' : 0 < n * i.size := Nat.mul_pos (by omega) hpos
               have hmul : (sLen + n) * i.size = sLen * i.size + n * i.size := Nat.add_mul _ _ _
               have hfits : ι.sh b + cs.length ≤ ι.size b := by
                obtain ⟨arr, e, fr, g1, g2, g3, g4⟩ := r.brel b _ hb
                obtain ⟨x, hx1, hx2⟩ := g3 (cs.length - 1) _ (List.getElem?_eq_getElem (by omega))
                have := (Array.getElem?_eq_some_iff.1 hx1).1
                omega
               rcases hcase with ⟨ho', _, hsz⟩ | ⟨h0, h00, h000⟩
               · have hroom : sLen + n ≤ c' := by
                   refine Nat.le_of_not_lt fun hlt => ?_
                   have : (c' + 1) * i.size ≤ (sLen + n) * i.size := Nat.mul_le_mul_right _ hlt
                   rw [Nat.add_mul] at this
                   omega
                 have hrun := T.room (some ⟨ι.blk b, o', none⟩) sLen c' w' hroom (by
                  simp only [Addr.add_lit]
                  rw [ho', Nat.add_assoc]; exact hst)
                 rw [← h3] at hrun
                 refine ⟨ι, _, w', hrun, ?_, k1, k2, NewT.same (write_n hw)⟩
                 simp only [VRel]
                 exact ⟨h1, hpos, o', c', rfl, hmx, .inl ⟨ho', hroom, hsz⟩⟩
               · omega
             split at ha
             · rename_i hend
               obtain ⟨hend, hone⟩ := hend
               by_cases hroom : sLen + n ≤ c'
               · split at ha
                 · rename_i hbd
                   cases ha
                   rcases hcase with ⟨ho', _, hsz⟩ | ⟨h0, h00⟩
                   · have hofit : o ≤ cs.length := by omega
                     have holdeq : old = cs.drop o := by
                      simp only [elemsOf, readCells, hb, cut] at hold
                      by_cases hz : sLen = 0
                      · rw [if_pos hz] at hold
                        cases hold
                        rw [hz, Nat.zero_mul, Nat.add_zero] at hend
                        rw [hend, List.drop_length]
                      rw [if_neg hz] at hold
                      split at hold
                      · cases hold
                        rw [List.take_of_length_le (by rw [List.length_drop]; omega)]
                      · cases hold
                     obtain ⟨w', hst, k1, k2⟩ := onward (P := P) r hb hofit hone hrn (by
                      simp only [Array.length_toList, hsn]
                      rw [← hsz, ho']
                      have : (sLen + n) * i.size ≤ c' * i.size := Nat.mul_le_mul_right _ hroom
                      rw [Nat.add_mul] at this
                      omega)
                     have hrun := T.room (some ⟨ι.blk b, o', none⟩) sLen c' w' hroom (by
                      simp only [Addr.add_lit]
                      rw [show o' + sLen * i.size = ι.sh b + cs.length by omega]; exact hst)
                     rw [← h3] at hrun
                     rw [holdeq]
                     have hnn : ι.n = h.n := r.n
                     refine ⟨_, _, w', hrun, ?_, k1, k2, fun _ ht => ?_⟩
                     rotate_left
                     · cases o with
                       | succ o => simp [typed] at ht
                       | zero =>
                         simp only [typed] at ht
                         split at ht
                         · rename_i b2 t2 hb2
                           simp only [Bool.and_eq_true, beq_iff_eq] at ht
                           obtain ⟨g1, g2, g3⟩ := r.brel _ _ hb2
                           rw [ht.1] at g2 g3
                           exact ⟨by rw [← hnn]; simp [g2, ht.2], by rw [← hnn]; simp [g3]⟩
                         · cases ht
                     simp only [VRel, Hp.n_set]
                     refine ⟨by rw [← hnn]; simp, T.pos, o', c', by rw [← hnn]; simp, hmx, .inl ⟨by rw [← hnn]; simp [ho'], hroom, by rw [← hnn]; simp [hsz]⟩⟩
                   · omega
                 · cases ha
               · obtain ⟨k1, k2⟩ := kill_ok r hb
                 exact grow _ c' (h.set b .dead) h3 (by omega) rfl k1 k2 ha
             · cases ha
           · cases ha
         · cases ha
 · cases ha
theorem append_core {e : TypeId} {i : TypeInfo} {z : Value} {S : Value → Sem Value} {n : Nat} {new : List AV} {anew : Array Value} (T : AppRuns P w e i z S n anew) {s v : AV} {rs : Value} {h' : AH}
    (r : Rel P.globals.size ι h w) (hs : VRel ι s rs) (hrn : VRels ι new anew.toList) (hsn : anew.size = n * i.size) (ha : appendCore i.size i.bytes s n new h = some (v, h')) :
    ∃ ι' rv w', (S rs).run P w = .ok rv w' ∧ VRel ι' v rv ∧ Rel P.globals.size ι' h' w' ∧ Stp ι ι' h h' w w' := by
 obtain ⟨ι', rv, w', h1, h2, h3, h4, _⟩ := append_coreT T r hs hrn hsn ha
 exact ⟨ι', rv, w', h1, h2, h3, h4⟩
theorem append_soundT {ats : Array TypeId} {e : TypeId} {i : TypeInfo} {z : Value} (T : AppT P ats e i z) (type : TypeId) {s x v : AV} {rs rx : Value} {h' : AH}
    (r : Rel P.globals.size ι h w) (hs : VRel ι s rs) (hx : VRel ι x rx) (ha : appendRun i.size i.bytes s x h = some (v, h')) :
    ∃ ι' rv w', (Builtin.append_ ats type #[rs, rx]).run P w = .ok rv w' ∧ VRel ι' v rv ∧ Rel P.globals.size ι' h' w' ∧ Stp ι ι' h h' w w' ∧ NewT e s h ι' h' := by
 unfold appendRun at ha
 simp only [Option.bind_eq_some_iff] at ha
 obtain ⟨n, hn, new, hnew, ha⟩ := ha
 obtain ⟨anew, hfn, hrn, hlnew⟩ := elems_ok' r hx hn hnew n (Nat.le_refl _)
 rw [take_all hlnew] at hrn
 have hlen := lenOf_ok (P := P) hx hn w
 have hsn : anew.size = n * i.size := by have := hrn.length; simp at this; omega
 exact append_coreT (S := fun rs => Builtin.append_ ats type #[rs, rx]) ⟨T.pos, T.zs, T.zv, fun base sLen sCap w' hroom hst => append_room T type hlen (hfn w (fun _ => rfl)) hroom hst,
  fun base sLen sCap old hold hg hb h63 => append_grow T type hlen (hfn w.drew (fun _ => rfl)) hold hg hb h63⟩ r hs hrn hsn ha
theorem append_sound {ats : Array TypeId} {e : TypeId} {i : TypeInfo} {z : Value} (T : AppT P ats e i z) (type : TypeId) {s x v : AV} {rs rx : Value} {h' : AH}
    (r : Rel P.globals.size ι h w) (hs : VRel ι s rs) (hx : VRel ι x rx) (ha : appendRun i.size i.bytes s x h = some (v, h')) :
    ∃ ι' rv w', (Builtin.append_ ats type #[rs, rx]).run P w = .ok rv w' ∧ VRel ι' v rv ∧ Rel P.globals.size ι' h' w' ∧ Stp ι ι' h h' w w' := by
 obtain ⟨ι', rv, w', h1, h2, h3, h4, _⟩ := append_soundT T type r hs hx ha
 exact ⟨ι', rv, w', h1, h2, h3, h4⟩
end
end Go.Fs
end

section
/- The operations that make or write memory: what the abstract machine does is what the model does. -/
namespace Go.Fs
section
variable {P : Program} {ι : Emb} {h : AH} {w : World}
def CO.isCall : CO → Bool
 | .call _ _ => true
 | _ => false
theorem does_of {a : Act} {o : Oper} {v : AV} {h' : AH} {s : Sem Value} (he : execOp a.eval o = (do pure (.value (← s)) : Sem Next))
    (hs : ∃ ι' rv w', s.run P w = .ok rv w' ∧ VRel ι' v rv ∧ Rel P.globals.size ι' h' w' ∧ Stp ι ι' h h' w w') : Does P ι h w a o v h' := by
 obtain ⟨ι', rv, w', h1, h2⟩ := hs
 refine ⟨ι', rv, w', .inl ?_, h2⟩
 rw [he]
 simp [h1]
theorem does_unit {a : Act} {o : Oper} {h' : AH} {s : Sem Unit} (he : execOp a.eval o = (do s; pure .skip : Sem Next))
    (hs : ∃ ι' w', s.run P w = .ok () w' ∧ Rel P.globals.size ι' h' w' ∧ Stp ι ι' h h' w w') : Does P ι h w a o AV.undef h' := by
 obtain ⟨ι', w', h1, h2⟩ := hs
 refine ⟨ι', Go.undef, w', .inr ⟨?_, rfl⟩, VRel.undef, h2⟩
 rw [he]
 simp [h1]
theorem reps_rel {z : List AV} {rz : List Value} (hz : VRels ι z rz) : ∀ n, VRels ι (reps z n) ((List.replicate n rz).flatten)
 | 0 => by simp [reps, VRels]
 | n + 1 => by
   simp only [reps, List.replicate_succ, List.flatten_cons]
   exact hz.append (reps_rel hz n)
theorem range_map (rz : Array Value) (hpos : 0 < rz.size) (n : Nat) : ((Array.range (n * rz.size)).map (fun i => rz[i % rz.size]!)).toList = (List.replicate n rz.toList).flatten := by
 induction n with
 | zero => simp
 | succ n ih =>
   rw [List.replicate_succ']
   rw [List.flatten_append, ← ih]
   simp only [List.flatten_cons, List.flatten_nil, List.append_nil]
   apply List.ext_getElem?
   intro i
   rw [Array.getElem?_toList, Array.getElem?_map, Array.getElem?_range]
   rw [List.getElem?_append]
   simp only [Array.length_toList, Array.size_map, Array.size_range, Array.getElem?_toList, Array.getElem?_map, Array.getElem?_range]
   have e : (n + 1) * rz.size = n * rz.size + rz.size := by rw [Nat.add_mul]; omega
   by_cases h1 : i < n * rz.size
   · rw [if_pos (by omega), if_pos h1, if_pos h1]
   · rw [if_neg h1]
     by_cases h2 : i < (n + 1) * rz.size
     · rw [if_pos h2]
       have h3 : i - n * rz.size < rz.size := by omega
       have h4 : i % rz.size = i - n * rz.size := by
        have : i = (i - n * rz.size) + n * rz.size := by omega
        rw [this, Nat.add_mul_mod_self_right, Nat.mod_eq_of_lt h3]
        omega
       simp [h4, h3]
     · rw [if_neg h2]
       rw [Array.getElem?_eq_none (by omega)]
       rfl
theorem zeroCells_none (rz : Array Value) : Builtin.zeroCells rz 0 = #[] := by
 simp [Builtin.zeroCells, Array.range_zero']
theorem appz_runs {ats : Array TypeId} (type : TypeId) {t e u : TypeId} {i : TypeInfo} {rz : Value} {k kk : IntKind} {l : Int} (ht : ats[0]? = some t) (hu : P.underlying t = some (.slice e)) (hx : ats[1]? = some u)
    (hxu : P.underlying u = some (.int k)) (hi : P.info? e = some i) (hz : i.zero = some rz) (hzs : rz.cells.size = i.size) (hzsp : ∀ (j : Nat) (v : Value), rz.cells[j]? = some v → Spare v) (hpos : 0 < i.size) (h0 : 0 ≤ l) (hb : l * i.bytes ≤ 281474976710656) (h60 : l ≤ 1152921504606846976) :
    AppRuns P w e i rz (fun rs => Builtin.append_ ats type #[rs, .int kk l]) l.toNat (Builtin.zeroCells rz.cells l.toNat) := by
 have w1 : IntKind.i64.wrap l = l := by unfold IntKind.wrap; simp [IntKind.bits, IntKind.signed]; omega
 have c1 : ¬ (l < 0) := by omega
 have c2 : ¬ (281474976710656 < l * (i.bytes : Int)) := by omega
 refine ⟨hpos, hzs, hzsp, fun base sLen sCap w' hroom hst => ?_, fun base sLen sCap old hold hg hbb h63 => ?_⟩
 · by_cases hn : l.toNat = 0
   · have hnil : Builtin.zeroCells rz.cells l.toNat = #[] := by rw [hn, zeroCells_none]
     rw [hnil] at hst
     have hroom' : sLen ≤ sCap := by omega
     cases base with
     | none => simp only at hst; subst hst; simp [Builtin.append_, ht, hx, run_underlying hu, run_underlying hxu, sizeOf, typeInfo, hi, Go.asInt, asIntOf, w1, c1, c2, hroom', hn]
     | some a => simp only at hst; simp [Builtin.append_, ht, hx, run_underlying hu, run_underlying hxu, sizeOf, typeInfo, hi, Go.asInt, asIntOf, w1, c1, c2, hroom', hn]; rw [hst]; rfl
   · have hn0 : ¬ (l.toNat * i.size = 0) := by
       intro hh
       rcases Nat.mul_eq_zero.1 hh with h | h <;> omega
     cases base with
     | none => simp only at hst; subst hst; simp [Builtin.append_, ht, hx, run_underlying hu, run_underlying hxu, sizeOf, typeInfo, zeroValue, hi, hz, Go.asInt, asIntOf, w1, c1, c2, hroom]
     | some a => simp only at hst; simp [Builtin.append_, ht, hx, run_underlying hu, run_underlying hxu, sizeOf, typeInfo, zeroValue, hi, hz, Go.asInt, asIntOf, w1, c1, c2, hroom, hn0, hst]
 · have h1 : ¬ (sLen + l.toNat ≤ sCap) := by omega
   have h2 : ¬ (9223372036854775807 < ((sLen : Int) + (l.toNat : Int))) := by omega
   have h3 : ¬ (281474976710656 < Builtin.nextslicecap (sLen + l.toNat) sCap * i.bytes) := by have := growslice_fits hg hbb; omega
   by_cases hn : l.toNat = 0
   · have hl : l = 0 := by omega
     subst hl
     simp only [Int.toNat_zero, Nat.add_zero] at h1 h2 h3
     have h2' : ¬ (9223372036854775807 < (sLen : Int)) := by omega
     simp [Builtin.append_, ht, hx, run_underlying hu, run_underlying hxu, sizeOf, typeInfo, zeroValue, hi, hz, Go.asInt, asIntOf, w1, h1, h2', h3, Question.forced, hold, newRow, grownCap, zeroCells_none]
   · have hn0 : ¬ (l.toNat * i.size = 0) := by
       intro hh
       rcases Nat.mul_eq_zero.1 hh with h | h <;> omega
     have h2' : ¬ (9223372036854775807 < ((sLen : Int) + max l 0)) := by omega
     simp [Builtin.append_, ht, hx, run_underlying hu, run_underlying hxu, sizeOf, typeInfo, zeroValue, hi, hz, Go.asInt, asIntOf, w1, c1, c2, h1, h2', h3, Question.forced, hn0, hold, newRow, grownCap]
theorem appz_sound {ats : Array TypeId} (type : TypeId) {t e u : TypeId} {i : TypeInfo} {z : AV} {k : IntKind} {s x v : AV} {rs rx : Value} {h' : AH} (ht : ats[0]? = some t) (hu : P.underlying t = some (.slice e)) (hx : ats[1]? = some u)
    (hxu : P.underlying u = some (.int k)) (hi : P.info? e = some i) (hz : zeroT P e = some z) (hzl : z.cells.length = i.size) (hpos : 0 < i.size)
    (r : Rel P.globals.size ι h w) (hs : VRel ι s rs) (hrx : VRel ι x rx) (ha : appendZ i.size i.bytes z.cells s x h = some (v, h')) :
    ∃ ι' rv w', (Builtin.append_ ats type #[rs, rx]).run P w = .ok rv w' ∧ VRel ι' v rv ∧ Rel P.globals.size ι' h' w' ∧ Stp ι ι' h h' w w' := by
 unfold appendZ at ha
 split at ha
 · rename_i kk l
   split at ha
   · rename_i hc
     obtain ⟨rz, hz1, hz2, i', hi', hzv⟩ := zeroT_run (ι := ι) hz
     rw [hi] at hi'; cases hi'
     have hzs : rz.cells.size = i.size := by have := hz2.cells.length; simp at this; omega
     have hR := reps_rel hz2.cells l.toNat
     have hrm := range_map rz.cells (by omega) l.toNat
     rw [← hrm] at hR
     have hrx' := int_of hrx
     subst hrx'
     have hsz : (Builtin.zeroCells rz.cells l.toNat).size = l.toNat * i.size := by simp [Builtin.zeroCells, hzs]
     exact append_core (appz_runs type ht hu hx hxu hi hzv hzs (zeroT_spare hz hi hzv) hpos hc.1 hc.2.1 hc.2.2) r hs hR hsz ha
   · cases ha
 · cases ha
theorem sameBits_bool (n : Nat) (a b : Bool) : Instr.sameBits n (.bool a) (.bool b) = (a == b) := by cases n <;> rfl
theorem sameBits_int (n : Nat) (j k : IntKind) (a b : Int) : Instr.sameBits n (.int j a) (.int k b) = (j == k && a == b) := by cases n <;> rfl
theorem sameBits_str (n : Nat) (a b : ByteArray) : Instr.sameBits n (.string a) (.string b) = (a == b) := by cases n <;> rfl
theorem mapPut_ok {q : SK} {k x : AV} {rk rx : Value} {kt : TypeId} (hk : VRel ι k rk) (hx : VRel ι x rx) (hq : q.fits P kt) (hsc : scalar q k = true) :
    ∀ {es es' : List (AV × AV)} {rs : List MapEntry} (i : Nat), mapPut q k x es = some es' → ERels ι es rs →
     ∃ d, P.underlying kt = some d ∧ ((Instr.findNow d rk rs i = some none ∧ ∀ born, ERels ι es' (rs ++ [⟨rk, rx, born⟩])) ∨
      ∃ j e rv, Instr.findNow d rk rs i = some (some (i + j, rv)) ∧ rs[j]? = some e ∧ Instr.sameBits 10000 e.key rk = true ∧ ERels ι es' (rs.set j { e with key := rk, val := rx }))
 | [], es', rs, i, hm, hr => by
   simp only [mapPut, Option.some.injEq] at hm
   simp only [ERels] at hr
   subst hm; subst hr
   have hd : ∃ d, P.underlying kt = some d := by
    cases q
    · exact ⟨_, hq⟩
    · obtain ⟨k', hk'⟩ := hq; exact ⟨_, hk'⟩
    · exact ⟨_, hq⟩
   obtain ⟨d, hd⟩ := hd
   refine ⟨d, hd, .inl ⟨rfl, fun born => ?_⟩⟩
   simp only [List.nil_append, ERels]
   exact ⟨_, _, rfl, hk, hx, rfl⟩
 | (k', x') :: es, es', rs, i, hm, hr => by
   simp only [ERels] at hr
   obtain ⟨e, rs', rfl, h1, h2, h3⟩ := hr
   simp only [mapPut] at hm
   have hd : ∃ d, P.underlying kt = some d := by
    cases q
    · exact ⟨_, hq⟩
    · obtain ⟨k', hk'⟩ := hq; exact ⟨_, hk'⟩
    · exact ⟨_, hq⟩
   obtain ⟨d, hd⟩ := hd
   have hsame : ∀ b, scalEq q k k' = some b → Instr.sameNow d rk e.key = some b ∧ (b = true → Instr.sameBits 10000 e.key rk = true) := fun b hb => by
    cases q
    · cases k <;> cases k' <;> simp only [scalEq] at hb <;> first | (cases hb; done) | skip
      cases hb
      simp only [SK.fits] at hq
      rw [hq] at hd; cases hd
      rw [bool_of hk, bool_of h1]
      refine ⟨rfl, fun h0 => ?_⟩
      rw [sameBits_bool]
      rename_i p p'
      cases p <;> cases p' <;> simp_all
    · cases k <;> cases k' <;> simp only [scalEq] at hb <;> first | (cases hb; done) | skip
      split at hb
      · rename_i hkk
        cases hb
        obtain ⟨kk, hq⟩ := hq
        rw [hq] at hd; cases hd
        rw [int_of hk, int_of h1]
        refine ⟨by simp [Instr.sameNow, hkk], fun h0 => ?_⟩
        rw [sameBits_int]
        simp at h0
        simp [hkk, h0]
      · cases hb
    · cases k <;> cases k' <;> simp only [scalEq] at hb <;> first | (cases hb; done) | skip
      cases hb
      simp only [SK.fits] at hq
      rw [hq] at hd; cases hd
      rename_i a b
      rw [str_of hk, str_of h1]
      have hb : ((⟨a.toArray⟩ : ByteArray) == ⟨b.toArray⟩) = decide (a = b) := by
       show ((a.toArray : Array UInt8) == b.toArray) = decide (a = b)
       rw [Bool.eq_iff_iff, beq_iff_eq]
       simp
      have hb2 : ((⟨b.toArray⟩ : ByteArray) == ⟨a.toArray⟩) = decide (a = b) := by
       show ((b.toArray : Array UInt8) == a.toArray) = decide (a = b)
       rw [Bool.eq_iff_iff, beq_iff_eq]
       simp [eq_comm]
      refine ⟨by simp [Instr.sameNow, hb], fun h0 => ?_⟩
      rw [sameBits_str, hb2]
      exact h0
   cases hb : scalEq q k k' with
   | none => simp [hb] at hm
   | some b =>
     obtain ⟨hs, hs2⟩ := hsame b hb
     cases b with
     | true =>
       simp only [hb, Option.some.injEq] at hm
       subst hm
       refine ⟨d, hd, .inr ⟨0, e, e.val, by simp [Instr.findNow, hs], rfl, hs2 rfl, ?_⟩⟩
       simp only [List.set_cons_zero, ERels]
       exact ⟨_, _, rfl, hk, hx, h3⟩
     | false =>
       simp only [hb, Option.map_eq_some_iff] at hm
       obtain ⟨es2, hm, rfl⟩ := hm
       obtain ⟨d', hd', h4⟩ := mapPut_ok hk hx hq hsc (i + 1) hm h3
       rw [hd] at hd'; cases hd'
       refine ⟨d, hd, ?_⟩
       rcases h4 with ⟨h5, h6⟩ | ⟨j, e', rv, h5, h6, h7, h8⟩
       · refine .inl ⟨by simpa [Instr.findNow, hs] using h5, fun born => ?_⟩
         simp only [List.cons_append, ERels]
         exact ⟨_, _, rfl, h1, h2, h6 born⟩
       · refine .inr ⟨j + 1, e', rv, ?_, by simpa using h6, h7, ?_⟩
         · simp only [Instr.findNow, hs, h5]
           congr 3
           omega
         · simp only [List.set_cons_succ, ERels]
           exact ⟨_, _, rfl, h1, h2, h8⟩
theorem setMap_rel {G : Nat} (r : Rel G ι h w) {b : Nat} {es es' : List (AV × AV)} (hb : h.get b = some (.map es)) {rs : Array MapEntry} {clock : Nat} (hr : ERels ι es' rs.toList) :
    Rel G ι (h.set b (.map es')) { w with heap := w.heap.setIfInBounds (ι.blk b) (.map rs clock) } ∧ Stp ι ι h (h.set b (.map es')) w { w with heap := w.heap.setIfInBounds (ι.blk b) (.map rs clock) } := by
 obtain ⟨rs0, c0, g1, g2⟩ := r.brel b _ hb
 have hlt := (Array.getElem?_eq_some_iff.1 g1).1
 have hother : ∀ k, k ≠ ι.blk b → (w.heap.setIfInBounds (ι.blk b) (.map rs clock))[k]? = w.heap[k]? := fun k hk => Array.getElem?_setIfInBounds_ne (Ne.symm hk)
 have hself : (w.heap.setIfInBounds (ι.blk b) (.map rs clock))[ι.blk b]? = some (.map rs clock) := by simp [hlt]
 refine ⟨⟨r.n, fun b' c' hb' => ?_, r.gn, r.glob, fun b' c' hb' => ?_, fun b1 b2 c1 c2 h1 h2 hne hrw hlv => ?_⟩, ?_⟩
 · rw [Hp.get_set] at hb'
   split at hb'
   · rename_i he; rw [he]; exact r.dom b _ hb
   · exact r.dom b' c' hb'
 · rw [Hp.get_set] at hb'
   split at hb'
   · rename_i he; cases hb'; rw [he]; exact ⟨rs, clock, hself, hr⟩
   · rename_i he
     exact (r.brel b' c' hb').mono (by rw [r.n]; exact r.dom b' c' hb') ι.le_refl fun hl => hother _ fun hh => r.sep b b' _ c' hb hb' (Ne.symm he) trivial hl hh.symm
 · have k1 : ∃ c, h.get b1 = some c ∧ c.rw := by
     rw [Hp.get_set] at h1
     split at h1
     · rename_i he; exact ⟨.map es, by rw [he]; exact hb, trivial⟩
     · exact ⟨_, h1, hrw⟩
   have k2 : ∃ c, h.get b2 = some c ∧ c.live := by
    rw [Hp.get_set] at h2
    split at h2
    · rename_i he; exact ⟨.map es, by rw [he]; exact hb, trivial⟩
    · exact ⟨_, h2, hlv⟩
   obtain ⟨d1, e1, e2⟩ := k1
   obtain ⟨d2, e3, e4⟩ := k2
   exact r.sep b1 b2 d1 d2 e1 e3 hne e2 e4
 · refine ⟨ι.le_refl, rfl, rfl, rfl, by simp, fun k hk hn => hother k (fun he => hn b _ hb trivial he.symm), fun b' c' hb' hrw => ?_, by simp, by simp; omega, fun b' h5 _ => ?_⟩
   · rw [Hp.get_set] at hb'
     split at hb'
     · rename_i he; exact .inr ⟨b, _, hb, trivial, by rw [he]⟩
     · exact .inr ⟨b', c', hb', hrw, rfl⟩
   · simp at h5
     exact Hp.get_set_ne _ _ _ _ (by omega)
theorem put_rel {G : Nat} (r : Rel G ι h w) {b : Nat} {c c' : Blk} (hb : h.get b = some c) (hrw : c.rw) (hlv : c.live) (_hlt : ι.blk b < w.heap.size) (o : Obj)
    (hB : BRel ι { w with heap := w.heap.setIfInBounds (ι.blk b) o } b c') :
    Rel G ι (h.set b c') { w with heap := w.heap.setIfInBounds (ι.blk b) o } ∧ Stp ι ι h (h.set b c') w { w with heap := w.heap.setIfInBounds (ι.blk b) o } := by
 have hother : ∀ k, k ≠ ι.blk b → (w.heap.setIfInBounds (ι.blk b) o)[k]? = w.heap[k]? := fun k hk => Array.getElem?_setIfInBounds_ne (Ne.symm hk)
 refine ⟨⟨r.n, fun b' c' hb' => ?_, r.gn, r.glob, fun b' c' hb' => ?_, fun b1 b2 c1 c2 h1 h2 hne hrw1 hlv2 => ?_⟩, ?_⟩
 · rw [Hp.get_set] at hb'
   split at hb'
   · rename_i he; rw [he]; exact r.dom b _ hb
   · exact r.dom b' c' hb'
 · rw [Hp.get_set] at hb'
   split at hb'
   · rename_i he; cases hb'; rw [he]; exact hB
   · rename_i he
     exact (r.brel b' c' hb').mono (by rw [r.n]; exact r.dom b' c' hb') ι.le_refl fun hl => hother _ fun hh => r.sep b b' _ c' hb hb' (Ne.symm he) hrw hl hh.symm
 · have k1 : ∃ c, h.get b1 = some c ∧ c.rw := by
     rw [Hp.get_set] at h1
     split at h1
     · rename_i he; exact ⟨c, by rw [he]; exact hb, hrw⟩
     · exact ⟨_, h1, hrw1⟩
   have k2 : ∃ c, h.get b2 = some c ∧ c.live := by
    rw [Hp.get_set] at h2
    split at h2
    · rename_i he; exact ⟨c, by rw [he]; exact hb, hlv⟩
    · exact ⟨_, h2, hlv2⟩
   obtain ⟨d1, e1, e2⟩ := k1
   obtain ⟨d2, e3, e4⟩ := k2
   exact r.sep b1 b2 d1 d2 e1 e3 hne e2 e4
 · refine ⟨ι.le_refl, rfl, rfl, rfl, by simp, fun k hk hn => hother k (fun he => hn b _ hb hrw he.symm), fun b' c' hb' hrw' => ?_, by simp, by simp; omega, fun b' h5 _ => ?_⟩
   · rw [Hp.get_set] at hb'
     split at hb'
     · rename_i he; exact .inr ⟨b, _, hb, hrw, by rw [he]⟩
     · exact .inr ⟨b', c', hb', hrw', rfl⟩
   · simp at h5
     exact Hp.get_set_ne _ _ _ _ (by omega)
theorem pushTyp {G : Nat} (r : Rel G ι h w) {b t : Nat} (hb : b < ι.n) (ht : ι.ty b = t) (hs : ι.sh b = 0) :
    Rel G (ι.add 0 0 0 0) (h.push (.typ b t)) w ∧ Stp ι (ι.add 0 0 0 0) h (h.push (.typ b t)) w w := by
 have hn := r.n
 have hadd : ∀ b', b' ≠ h.n → (ι.add 0 0 0 0).blk b' = ι.blk b' := fun b' hb' => by simp [Emb.add, hn, hb']
 refine ⟨⟨by simp [hn], fun b' d hd => ?_, Nat.le_succ_of_le r.gn, fun g hg => ?_, fun b' d hd => ?_, fun b1 b2 c1 c2 h1 h2 hne hrw hlv => ?_⟩, ?_⟩
 · rw [Hp.get_push] at hd
   split at hd
   · rename_i he; simp [he]
   · have := r.dom b' d hd; simp; omega
 · have := r.gn
   have h1 := r.glob g hg
   simp [Emb.add, show g ≠ ι.n by omega, h1]
 · rw [Hp.get_push] at hd
   split at hd
   · cases hd
     have hbne : b ≠ ι.n := by omega
     exact ⟨by simp; omega, by simp [Emb.add, hbne, ht], by simp [Emb.add, hbne, hs]⟩
   · have hbn := r.dom b' d hd
     exact (r.brel b' d hd).mono (by omega) (ι.le_add _ _ _ _) fun _ => rfl
 · rw [Hp.get_push] at h1 h2
   split at h1
   · cases h1; exact hrw.elim
   · rename_i e1
     split at h2
     · cases h2; exact hlv.elim
     · rename_i e2
       rw [hadd b1 e1, hadd b2 e2]
       exact r.sep b1 b2 c1 c2 h1 h2 hne hrw hlv
 · refine ⟨ι.le_add _ _ _ _, rfl, rfl, rfl, Nat.le_refl _, fun _ _ _ => rfl, fun b' d hd hrw => ?_, by simp, by simp, fun b' _ h6 => Hp.get_push_ne _ _ _ (by omega)⟩
   rw [Hp.get_push] at hd
   split at hd
   · cases hd; exact hrw.elim
   · rename_i e1; exact .inr ⟨b', d, hd, hrw, (hadd b' e1).symm⟩
theorem typ_new {G : Nat} (r : Rel G ι h w) (e : TypeId) {cs : List AV} {arr : Array Value} (hr : VRels ι cs arr.toList) :
    ∃ ι', ((ι.add w.heap.size 0 arr.size e).le ι') ∧ Rel G ι' ((h.push (.cells cs false)).push (.typ h.n e)) (w.alloc (.cells arr e)) ∧ Stp ι ι' h ((h.push (.cells cs false)).push (.typ h.n e)) w (w.alloc (.cells arr e)) := by
 obtain ⟨k1, k2⟩ := new_rel r e hr
 obtain ⟨k3, k4⟩ := pushTyp k1 (b := h.n) (t := e) (by rw [← r.n]; simp) (by rw [← r.n]; simp) (by rw [← r.n]; simp)
 exact ⟨_, Emb.le_add _ _ _ _ _, k3, k2.trans k4⟩
end
end Go.Fs
end

section
/- The operations that make or write memory: all but the call. -/
namespace Go.Fs
set_option maxRecDepth 100000
set_option maxHeartbeats 32000000
section
variable {P : Program} {ι : Emb} {h : AH} {w : World}
theorem mapset_ok {call : Rec} {tm : List AV} {a : Act} {v : AV} {h' : AH} (r : Rel P.globals.size ι h w) (ha : ARel ι tm a) {t kt e : TypeId} {q : SK} {m k x : Operand} {cm ck cx : CA}
    (hu : P.underlying t = some (.map kt e)) (hm : cA P m = some cm) (hk : cA P k = some ck) (hx : cA P x = some cx) (hkt : keyT P kt = some q) (hv : effRun call (.mapset q cm ck cx) tm h = some (v, h')) :
    v = AV.undef ∧ ∃ ι' w', (Instr.mapUpdate t (a.eval m) (a.eval k) (a.eval x)).run P w = .ok () w' ∧ Rel P.globals.size ι' h' w' ∧ Stp ι ι' h h' w w' := by
 simp only [effRun] at hv
 have e1 := ev_rel r ha hm
 have e2 := ev_rel r ha hk
 have e3 := ev_rel r ha hx
 have hf := keyT_fits hkt
 split at hv
 · rename_i r0 hp
   split at hv
   · rename_i es hes
     split at hv
     · rename_i hsc
       simp only [Option.map_eq_some_iff, Prod.mk.injEq] at hv
       obtain ⟨es', hput, rfl, rfl⟩ := hv
       rw [hp] at e1
       simp only [VRel] at e1
       obtain ⟨hbn, e4⟩ := e1
       obtain ⟨rs, clock, g1, g2⟩ := r.brel r0 _ hes
       obtain ⟨d, hd, hcase⟩ := mapPut_ok e2 e3 hf hsc 0 hput g2
       have hget : ∀ (o : Obj), (setObj (ι.blk r0) o).run P w = .ok () { w with heap := w.heap.setIfInBounds (ι.blk r0) o } := fun o => by simp [setObj, Sem.run, g1]
       refine ⟨rfl, ?_⟩
       rcases hcase with ⟨h1, h2⟩ | ⟨j, e', rv, h1, h2, h3, h4⟩
       · obtain ⟨k1, k2⟩ := setMap_rel r hes (rs := rs.push ⟨a.eval k, a.eval x, clock⟩) (clock := clock + 1) (by simpa using h2 clock)
         refine ⟨ι, _, ?_, k1, k2⟩
         simp [Instr.mapUpdate, run_underlying hu, e4, getObj, Sem.run, g1, checkKey_ok hf e2 hsc, Instr.findKey, run_underlying hd, h1, hget]
       · have hj : rs[j]? = some e' := by simpa using h2
         obtain ⟨k1, k2⟩ := setMap_rel r hes (rs := rs.modify j fun e => { e with key := a.eval k, val := a.eval x }) (clock := clock) (by
          have : (rs.modify j fun e => { e with key := a.eval k, val := a.eval x }).toList = rs.toList.set j { e' with key := a.eval k, val := a.eval x } := by
           apply List.ext_getElem?
           intro i
           rw [Array.getElem?_toList, Array.getElem?_modify, List.getElem?_set]
           by_cases hij : j = i
           · subst hij
             obtain ⟨hlt, hje⟩ := Array.getElem?_eq_some_iff.1 hj
             simp [hlt, hje]
           · simp [hij]
          rw [this]; exact h4)
         refine ⟨ι, _, ?_, k1, k2⟩
         simp only [Nat.zero_add] at h1
         simp [Instr.mapUpdate, run_underlying hu, e4, getObj, Sem.run, g1, checkKey_ok hf e2 hsc, Instr.findKey, run_underlying hd, h1, hget, Instr.keyThatStays, hj, h3]
     · cases hv
   · cases hv
 · cases hv
theorem freeze_new (w : World) (arr : Array Value) (e : TypeId) : (w.alloc (.cells arr e)).freeze ⟨w.heap.size, arr.size, none⟩ 1 = w.alloc (.cells arr e (arr.size, arr.size + 1)) := by
 unfold World.freeze World.alloc
 simp only [Nat.one_ne_zero, if_false]
 congr 1
 apply Array.ext_getElem?
 intro i
 rw [Array.getElem?_modify, Array.getElem?_push, Array.getElem?_push]
 by_cases h : i = w.heap.size
 · subst h; simp
 · simp [h, Ne.symm h]
theorem s2b_ok {call : Rec} {tm : List AV} {a : Act} {v : AV} {h' : AH} (r : Rel P.globals.size ι h w) (ha : ARel ι tm a) {src dst e : TypeId} {x : Operand} {d : CA}
    (hs : P.underlying src = some .string) (hd : P.underlying dst = some (.slice e)) (he : P.underlying e = some (.int .u8)) (hx : cA P x = some d) (hv : effRun call (.s2b d) tm h = some (v, h')) :
    ∃ ι' rv w', (convert src dst (a.eval x)).run P w = .ok rv w' ∧ VRel ι' v rv ∧ Rel P.globals.size ι' h' w' ∧ Stp ι ι' h h' w w' := by
 simp only [effRun] at hv
 have e1 := ev_rel r ha hx
 split at hv
 · rename_i s hp
   split at hv
   · rename_i hb
     cases hv
     rw [hp] at e1
     have e2 := str_of e1
     have hsz : (⟨s.toArray⟩ : ByteArray).size = s.length := by simp [ByteArray.size]
     obtain ⟨C, hC⟩ : ∃ C, C = grownCap w s.length 0 e := ⟨_, rfl⟩
     have hge : s.length ≤ C := by rw [hC]; exact grownCap_ge w _ _ _
     obtain ⟨arr, harr⟩ : ∃ arr : Array Value, arr = ((⟨s.toArray⟩ : ByteArray).data.map fun b => Value.int .u8 b.toNat) ++ Array.replicate (C - s.length) (.int .u8 0) := ⟨_, rfl⟩
     have has : arr.size = C := by rw [harr]; simp; omega
     have hrun : (convert src dst (a.eval x)).run P w = .ok (.slice (some ⟨w.heap.size, 0, none⟩) s.length C) (w.drew.alloc (.cells arr e (arr.size, arr.size + 1))) := by
      have hq : (Question.appendCap s.length 0 e).forced = false := rfl
      have hc : (choose (.appendCap s.length 0 e)).run P w = .ok C w.drew := by
       simp only [choose, Sem.run, hq, Bool.false_eq_true, if_false]
       rw [hC]; rfl
      rw [e2]
      simp only [convert, Sem.run_bind, run_underlying hs, run_underlying hd, Result.andThen_ok, run_underlying he, Conv.stringToBytes, hsz, hc]
      rw [← harr]
      have hnew : (newRow e arr).run P w.drew = .ok ⟨w.heap.size, 0, none⟩ (w.drew.alloc (.cells arr e)) := rfl
      simp only [hnew, Result.andThen_ok]
      have hmark : (markStringish ⟨w.heap.size, 0, none⟩).run P (w.drew.alloc (.cells arr e)) = .ok () (w.drew.alloc (.cells arr e (arr.size, arr.size + 1))) := by
       have hsh : (w.drew.alloc (.cells arr e)).shape? w.heap.size = some (e, arr.size) := by
        have := heap_alloc_new w.drew (.cells arr e)
        have hdz : w.drew.heap.size = w.heap.size := rfl
        rw [hdz] at this
        unfold World.shape?
        rw [this]
       have hfz := freeze_new w.drew arr e
       simp only [markStringish, shape, freeze, Sem.run_bind, Sem.run, hsh, Result.andThen_ok]
       exact congrArg (Result.ok ()) hfz
      simp only [hmark, Result.andThen_ok, Sem.run_pure]
     have hn : ι.n = h.n := r.n
     have hdz : w.drew.heap.size = w.heap.size := rfl
     obtain ⟨k1, k2⟩ := (r.drew).push (.cells (ofBytes s) false) (.cells arr e (arr.size, arr.size + 1)) arr.size e trivial (by
      refine ⟨arr, e, (arr.size, arr.size + 1), ?_, ?_, fun i c hc => ?_, fun _ => ⟨fun j h1 h2 => h1, fun j v hj hv => ?_⟩, by rw [← hn]; simp⟩
      · rw [← hn]; simp only [Emb.add_blk]; exact heap_alloc_new w.drew _
      · rw [← hn]; simp
      · rw [← hn]
        simp only [Emb.add_sh, Nat.zero_add]
        unfold ofBytes at hc
        simp only [List.getElem?_map, Option.map_eq_some_iff] at hc
        obtain ⟨u, hu, rfl⟩ := hc
        have hlt := (List.getElem?_eq_some_iff.1 hu).1
        refine ⟨.int .u8 u.toNat, ?_, by simp [VRel]⟩
        rw [harr, Array.getElem?_append_left (by simpa using hlt)]
        simp [hu]
      · rw [← hn] at hj
        simp only [Emb.add_sh, Nat.zero_add, ofBytes, List.length_map] at hj
        rw [harr, Array.getElem?_append_right (by simpa using hj), Array.getElem?_replicate] at hv
        split at hv
        · cases hv; exact ⟨.int .u8 0, fun _ => by simp [VRel]⟩
        · cases hv)
     refine ⟨_, _, _, hrun, ?_, k1, (Stp.drew ι h w).trans k2⟩
     simp only [VRel, ← hn]
     exact ⟨by simp, by omega, 0, C, by simp [hdz], (by rw [hC]; exact grownCap_le_maxLen w _ _ _ (by have : maxLen = 9223372036854775807 := rfl; omega)), .inl ⟨by simp, hge, by simp [has]⟩⟩
   · cases hv
 · cases hv
theorem byte_ok : ∀ {cs : List AV} {s : List UInt8}, bytesIn cs = some s → cs = ofBytes s
 | [], s, hb => by simp only [bytesIn, Option.some.injEq] at hb; subst hb; rfl
 | c :: cs, s, hb => by
   unfold bytesIn at hb
   split at hb
   · rename_i h0; cases h0
   · rename_i n cs' h0
     cases h0
     split at hb
     · rename_i hn
       simp only [Option.map_eq_some_iff] at hb
       obtain ⟨s', h1, rfl⟩ := hb
       rw [byte_ok h1]
       simp only [ofBytes, List.map_cons, List.cons.injEq, and_true, AV.int.injEq, true_and]
       have : (UInt8.ofNat n.toNat).toNat = n.toNat := by simp; omega
       rw [this]; omega
     · cases hb
   · cases hb
theorem ustr_ok {call : Rec} {tm : List AV} {v : AV} {h' : AH} (r : Rel P.globals.size ι h w) {pt it e : TypeId} (ty : TypeId) {rp rn : Value} {dp dn : CA} (hp : P.underlying pt = some (.pointer e)) (hce : P.cellsOf e = 1)
    (e1 : VRel ι (dp.ev tm) rp) (e2 : VRel ι (dn.ev tm) rn) (hv : effRun call (.ustr e dp dn) tm h = some (v, h')) :
    ∃ ι' rv w', (Builtin.unsafeString_ #[pt, it] ty #[rp, rn]).run P w = .ok rv w' ∧ VRel ι' v rv ∧ Rel P.globals.size ι' h' w' ∧ Stp ι ι' h h' w w' := by
 simp only [effRun] at hv
 have hnone : ∀ q, (Builtin.unsafeString_ #[pt, it] ty #[.pointer q, .int .i64 0]).run P w = .ok (.string .empty) w := fun q => Lib.run_unsafeString_none w pt it ty q
 split at hv
 · rename_i l hp1 hp2
   split at hv
   · rename_i h0
     cases hv
     rw [hp1] at e1; rw [hp2] at e2
     simp only [VRel] at e1
     subst h0
     rw [e1, int_of e2]
     exact ⟨ι, _, w, hnone _, by simp only [VRel]; rfl, r, Stp.refl _ _ _⟩
   · cases hv
 · rename_i b o l hp1 hp2
   rw [hp1] at e1; rw [hp2] at e2
   obtain ⟨hb, e3⟩ := ptr_of e1
   split at hv
   · rename_i h0
     cases hv
     subst h0
     rw [e3, int_of e2]
     exact ⟨ι, _, w, hnone _, by simp only [VRel]; rfl, r, Stp.refl _ _ _⟩
   · rename_i h0
     split at hv
     · rename_i hl
       obtain ⟨hl0, hl60, ht⟩ := hl
       obtain ⟨rfl, t1, t2⟩ := typed_ptr r ht
       split at hv
       · rename_i cs hbb
         simp only [Option.bind_eq_some_iff, Option.map_eq_some_iff, Prod.mk.injEq] at hv
         obtain ⟨ds, hcut, s, hs, rfl, rfl⟩ := hv
         have hds := byte_ok hs
         have hread : readCells h b 0 l.toNat = some ds := by unfold readCells; rw [hbb]; exact hcut
         obtain ⟨vs, g1, g2, g3, g4⟩ := cells_of r hread
         obtain ⟨z, k1, k2⟩ := shape_of r hbb
         rw [t2] at g4 k2 e3
         have hsl : s.length = l.toNat := by rw [← g2, hds]; simp [ofBytes]
         have hle : l.toNat ≤ cs.length := by
          unfold cut at hcut
          split at hcut
          · omega
          · cases hcut
         obtain ⟨arr, e', fr, b1, b2, b3, b4, b5⟩ := r.brel b _ hbb
         have hz : z = arr.size := by
          have := k1
          unfold World.shape? at this
          rw [b1] at this
          cases this; rfl
         have hrun := Lib.run_unsafeString_row (P := P) w pt it ty e hp hce (ι.blk b) z (by rw [k1, t1]) s (by intro hh; rw [hh] at hsl; simp at hsl; omega)
          (by have := k2 (l.toNat - 1) (by omega); omega) (by omega) (fun j x hx => by
            have hj : ds[j]? = some (.int .u8 x.toNat) := by rw [hds]; simp [ofBytes, hx]
            obtain ⟨rv, g5, g6⟩ := g3.get _ _ hj
            rw [int_of g6] at g5
            exact g4 j _ g5)
         rw [hsl, show ((l.toNat : Nat) : Int) = l by omega] at hrun
         have hfr : ∃ fr', w.freeze ⟨ι.blk b, 0, none⟩ l.toNat = { w with heap := w.heap.setIfInBounds (ι.blk b) (.cells arr e' fr') } := by
          obtain ⟨lo, hi⟩ := fr
          refine ⟨if lo == hi then (0, 0 + l.toNat) else (min lo 0, max hi (0 + l.toNat)), ?_⟩
          unfold World.freeze
          rw [if_neg (by omega)]
          congr 1
          apply Array.ext_getElem?
          intro i
          rw [Array.getElem?_modify, Array.getElem?_setIfInBounds]
          obtain ⟨hlt, hge⟩ := Array.getElem?_eq_some_iff.1 b1
          by_cases hi' : ι.blk b = i
          · subst hi'; simp [hge, hlt]
          · simp [hi']
         obtain ⟨fr', hfr⟩ := hfr
         rw [hfr] at hrun
         have hlt := (Array.getElem?_eq_some_iff.1 b1).1
         obtain ⟨m1, m2⟩ := put_rel r hbb (c' := .cells cs true) rfl trivial hlt (.cells arr e' fr')
          ⟨arr, e', fr', by simp [hlt], b2, b3, (fun hh => by cases hh), b5⟩
         rw [e3, int_of e2]
         exact ⟨ι, _, _, hrun, by simp only [VRel], m1, m2⟩
       · cases hv
     · cases hv
 · cases hv
theorem iterS_ok {call : Rec} {tm : List AV} {v : AV} {h' : AH} (r : Rel P.globals.size ι h w) {t : TypeId} {rx : Value} {d : CA} (hu : P.underlying t = some .string) (e1 : VRel ι (d.ev tm) rx)
    (hv : effRun call (.iterS d) tm h = some (v, h')) : ∃ ι' rv w', (Instr.range t rx).run P w = .ok rv w' ∧ VRel ι' v rv ∧ Rel P.globals.size ι' h' w' ∧ Stp ι ι' h h' w w' := by
 simp only [effRun] at hv
 split at hv
 · rename_i s hp
   cases hv
   rw [hp] at e1
   have hn := r.n
   obtain ⟨k1, k2⟩ := r.push (.iter s 0) (.stringIter ⟨s.toArray⟩ 0) 0 0 trivial ⟨by rw [← hn]; simp only [Emb.add_blk]; exact heap_alloc_new w _, by rw [← hn]; simp⟩
   refine ⟨_, .pointer (some ⟨w.heap.size, 0, none⟩), _, ?_, new_ptr r 0 0, k1, k2⟩
   rw [str_of e1]
   simp [Instr.range, run_underlying hu]
 · cases hv
theorem nextS_ok {call : Rec} {tm : List AV} {v : AV} {h' : AH} (r : Rel P.globals.size ι h w) (t : TypeId) {rx : Value} {d : CA} (e1 : VRel ι (d.ev tm) rx)
    (hv : effRun call (.nextS d) tm h = some (v, h')) : ∃ ι' rv w', (Instr.next rx true t).run P w = .ok rv w' ∧ VRel ι' v rv ∧ Rel P.globals.size ι' h' w' ∧ Stp ι ι' h h' w w' := by
 simp only [effRun] at hv
 split at hv
 · rename_i b hp
   split at hv
   · rename_i s pos hb
     rw [hp] at e1
     obtain ⟨hbn, e2⟩ := ptr_of e1
     obtain ⟨g1, g2⟩ := r.brel b _ hb
     rw [g2] at e2
     have hlt := (Array.getElem?_eq_some_iff.1 g1).1
     have hsz : (⟨s.toArray⟩ : ByteArray).size = s.length := by simp [ByteArray.size]
     split at hv
     · rename_i hpos
       cases hv
       obtain ⟨m1, m2⟩ := put_rel r hb (c' := .iter s (pos + (Utf8.decode ⟨s.toArray⟩ pos).2)) trivial trivial hlt (.stringIter ⟨s.toArray⟩ (pos + (Utf8.decode ⟨s.toArray⟩ pos).2)) ⟨by simp [hlt], g2⟩
       refine ⟨ι, .tuple #[.bool true, goInt pos, .int .i32 (Utf8.decode ⟨s.toArray⟩ pos).1], _, ?_, ?_, m1, m2⟩
       · rw [e2]
         simp [Instr.next, getObj, setObj, Sem.run, g1, hsz, hpos]
       · simp only [VRel]
         exact ⟨_, rfl, by simp [VRels, VRel, goInt]⟩
     · rename_i hpos
       cases hv
       refine ⟨ι, .tuple #[.bool false], w, ?_, ?_, r, Stp.refl _ _ _⟩
       · rw [e2]
         simp [Instr.next, getObj, Sem.run, g1, hsz, hpos]
       · simp only [VRel]
         exact ⟨_, rfl, by simp [VRels, VRel]⟩
   · cases hv
 · cases hv
theorem builtin_eff {call : Rec} {b : Builtin} {args : Array Operand} {ats : Array TypeId} {dst : Option Tmp} {type : TypeId} {pos : String} {after : Array Edge} {guard : Option (Nat × Bool)} {c : CO} {tm : List AV} {a : Act} {v : AV} {h' : AH}
    (hc : cBuiltin P b ats args = some c) (hq : c.quiet = false) (hv : effRun call c tm h = some (v, h')) (r : Rel P.globals.size ι h w) (ha : ARel ι tm a) :
    Does P ι h w a ⟨dst, .call ⟨.builtin b, args, ats⟩, type, pos, after, guard⟩ v h' := by
 obtain ⟨cs, hrun⟩ := run_builtin (P := P) a w b args ats dst type pos after guard
 have fin : ∀ (s : Sem Value), builtin b ats type cs (args.map a.eval) = (do pure (.value (← s)) : Sem Next) → (∃ ι' rv w', s.run P w = .ok rv w' ∧ VRel ι' v rv ∧ Rel P.globals.size ι' h' w' ∧ Stp ι ι' h h' w w') →
     Does P ι h w a ⟨dst, .call ⟨.builtin b, args, ats⟩, type, pos, after, guard⟩ v h' := fun s hs ⟨ι', rv, w', h1, h2⟩ => by
  refine ⟨ι', rv, w', .inl ?_, h2⟩
  rw [hrun, hs]
  simp [h1]
 unfold cBuiltin at hc
 split at hc
 · exfalso
   revert hq
   (repeat' split at hc) <;> first
     | (simp only [Option.map_eq_some_iff] at hc; obtain ⟨_, _, rfl⟩ := hc; simp [CO.quiet]; done)
     | (cases hc; done)
 · exfalso
   revert hq
   (repeat' split at hc) <;> first
     | (simp only [Option.map_eq_some_iff] at hc; obtain ⟨_, _, rfl⟩ := hc; simp [CO.quiet]; done)
     | (cases hc; done)
 · exfalso
   revert hq
   (repeat' split at hc) <;> first
     | (cases hc; simp [CO.quiet]; done)
     | (cases hc; done)
 · exfalso
   revert hq
   (repeat' split at hc) <;> first
     | (cases hc; simp [CO.quiet]; done)
     | (cases hc; done)
 · rename_i s x t hargs ht
   have hargs' := two_args hargs
   subst hargs'
   refine fin (Builtin.append_ ats type (#[s, x].map a.eval)) rfl ?_
   split at hc
   · rename_i e hu
     split at hc
     · rename_i hza
       split at hc
       · rename_i i z c1 c2 hi hz h1 h2
         split at hc
         · rename_i hcond
           cases hc
           simp only [effRun] at hv
           rw [show Array.map a.eval #[s, x] = #[a.eval s, a.eval x] by simp]
           cases hx0 : ats[1]? with
           | none => rw [hx0] at hza; simp [zeroArg] at hza
           | some u =>
             rw [hx0] at hza
             simp only [zeroArg] at hza
             split at hza
             · rename_i k hxu
               exact appz_sound type ht hu hx0 hxu hi hz hcond.1 hcond.2.1 r (ev_rel r ha h1) (ev_rel r ha h2) hv
             · cases hza
         · cases hc
       · cases hc
     rename_i hza
     split at hc
     · rename_i i c1 c2 hi hx1 h1 h2
       split at hc
       · rename_i z hz
         split at hc
         · rename_i hcond
           cases hc
           have T : AppT P ats e i z := by
            refine ⟨⟨t, ht, hu⟩, ?_, hi, hz, hcond.1, zeroT_spare (Option.get_mem hcond.2.2) hi hz, hcond.2.1⟩
            cases hx0 : ats[1]? with
            | none => exact .inl rfl
            | some u =>
              simp only [hx0] at hx1
              cases hud : P.underlying u with
              | none => simp [hud] at hx1
              | some d =>
                cases d <;> simp [hud] at hx1
                · exact .inr ⟨u, _, rfl, hud, .inl rfl⟩
                · exact .inr ⟨u, _, rfl, hud, .inr ⟨_, rfl⟩⟩
           rw [show Array.map a.eval #[s, x] = #[a.eval s, a.eval x] by simp]
           split at hv
           · simp only [effRun, Option.map_eq_some_iff, Prod.mk.injEq] at hv
             obtain ⟨⟨v1, h1'⟩, ha1, rfl, rfl⟩ := hv
             obtain ⟨ι', rv, w', g1, g2, g3, g4, g5⟩ := append_soundT T type r (ev_rel r ha h1) (ev_rel r ha h2) ha1
             unfold noteT
             split
             · rename_i hnt
               have g6 := g5 hnt.1 hnt.2
               obtain ⟨k1, k2⟩ := pushTyp g3 (b := h.n) (t := e) (by have h9 : h1'.n = h.n + 1 := hnt.1; rw [g3.n]; rw [h9]; exact Nat.lt_succ_self _) g6.1 g6.2
               exact ⟨_, rv, w', g1, g2.mono (Emb.le_add _ _ _ _ _), k1, g4.trans k2⟩
             · exact ⟨ι', rv, w', g1, g2, g3, g4⟩
           · simp only [effRun] at hv
             exact append_sound T type r (ev_rel r ha h1) (ev_rel r ha h2) hv
         · cases hc
       · cases hc
     · cases hc
   · cases hc
 · rename_i d s t hargs ht
   have hargs' := two_args hargs
   subst hargs'
   refine fin (Builtin.copy_ ats type (#[d, s].map a.eval)) rfl ?_
   split at hc
   · rename_i e hu
     split at hc
     · rename_i n c1 c2 hs h1 h2
       cases hc
       have e1 := ev_rel r ha h1
       have e2 := ev_rel r ha h2
       simp only [effRun] at hv
       split at hv
       · rename_i base dLen cp hp
         simp only [Option.bind_eq_some_iff] at hv
         obtain ⟨m, hm, xs, hxs, hv⟩ := hv
         obtain ⟨arr, g1, g2, g3⟩ := elems_ok' (P := P) r e2 hm hxs (min m dLen) (Nat.min_le_left _ _)
         have hlen := lenOf_ok (P := P) e2 hm w
         rw [hp] at e1
         have run : ∀ (q : Option Addr) (C : Nat) (w' : World), a.eval d = .slice q dLen C → (match q with | some A => (storeCells A arr.toList).run P w = .ok () w' | none => w' = w) →
             (Builtin.copy_ ats type (#[d, s].map a.eval)).run P w = .ok (goInt ((min m dLen : Nat) : Int)) w' := fun q C w' hq hst => by
          have g1' := g1 w fun _ => rfl
          have hmin : Nat.min m dLen = min m dLen := rfl
          cases q with
          | none => simp only at hst; subst hst; simp [Builtin.copy_, ht, run_underlying hu, hq, hlen, sizeT_run hs, hmin, g1']
          | some A => simp only at hst; simp [Builtin.copy_, ht, run_underlying hu, hq, hlen, sizeT_run hs, hmin, g1', hst]
         split at hv
         · cases hv
           have e1' := e1
           cases cp <;> simp only [VRel] at e1'
           exact ⟨ι, _, w, run none 0 w (by rw [e1'.2.2, e1'.1]) rfl, by simp [VRel, goInt], r, Stp.refl _ _ _⟩
         · rename_i b o
           split at hv
           · rename_i hk0
             cases hv
             obtain ⟨q, C, hq⟩ := nil_or_at e1
             have harr : arr.toList = [] := by
              have := g2.length
              rw [hk0] at this
              simp at this
              simp [this]
             refine ⟨ι, _, w, run q C w hq ?_, by simp [VRel, goInt], r, Stp.refl _ _ _⟩
             cases q with
             | none => rfl
             | some A => simp [harr, storeCells]
           · rename_i hk0
             simp only [Option.map_eq_some_iff, Prod.mk.injEq] at hv
             obtain ⟨h2', hw, rfl, rfl⟩ := hv
             obtain ⟨hb, C, hq⟩ := slice_at e1 (by omega)
             obtain ⟨w', hst, k1, k2⟩ := store_ok (P := P) r hw g2
             exact ⟨ι, _, w', run _ C w' hq hst, by simp [VRel, goInt], k1, k2⟩
       · cases hv
     · cases hc
   · cases hc
 · exfalso
   obtain ⟨d, hd, rfl⟩ := map_some_cA hc
   simp [CO.quiet] at hq
 · rename_i x n t hargs ht
   have hargs' := two_args hargs
   subst hargs'
   refine fin (Builtin.unsafeString_ ats type (#[x, n].map a.eval)) rfl ?_
   split at hc
   · rename_i t1 t2 e ca cb hts hu h1 h2
     split at hc
     · rename_i hce
       cases hc
       have hats : ats = #[t1, t2] := by apply Array.ext'; simpa using hts
       subst hats
       rw [show #[x, n].map a.eval = #[a.eval x, a.eval n] by simp]
       cases ht
       exact ustr_ok r type hu hce (ev_rel r ha h1) (ev_rel r ha h2) hv
     · cases hc
   · cases hc
 · cases hc
theorem eff_sound {call : Rec} {o : Oper} {c : CO} {tm : List AV} {a : Act} {v : AV} {h' : AH} (hc : cOp P o.op = some c) (hq : c.quiet = false) (hnc : c.isCall = false) (hv : effRun call c tm h = some (v, h'))
    (r : Rel P.globals.size ι h w) (ha : ARel ι tm a) : Does P ι h w a o v h' := by
 obtain ⟨dst, op, type, pos, after, guard⟩ := o
 have slc : ∀ {s len : Nat} {e : TypeId} {zero : List AV} {rz : List Value} {parts : Array (Nat × Operand)} {places : List (Nat × Nat × CA)} {arr0 : Array Value}, VRels ι zero rz → placesA P s parts.toList = some places →
     arr0.toList = (List.replicate len rz).flatten → effRun call (.litS s len zero places) tm h = some (v, h') →
     ∃ ι' arr', Instr.fill (fun i => some (i * s, s)) arr0 (parts.map fun (i, x) => (i, a.eval x)).toList = some arr' ∧ VRel ι' v (.slice (some ⟨w.heap.size, 0, none⟩) len len) ∧
      Rel P.globals.size ι' h' (w.alloc (.cells arr' e)) ∧ Stp ι ι' h h' w (w.alloc (.cells arr' e)) := fun {s len e zero rz parts places arr0} hz hp harr hv => by
  simp only [effRun] at hv
  split at hv
  · rename_i cs hf
    split at hv
    · cases hv
      obtain ⟨p1, p2⟩ := placesA_ok s parts.toList places hp
      obtain ⟨arr', h3, h4⟩ := fill_ok r ha (fun i => some (i * s, s)) parts.toList places (reps zero len) cs arr0 p1 (fun j i x off size c hj hj' => by
       obtain ⟨⟨g1, g2⟩, g4⟩ := p2 j i x off size c hj hj'
       exact ⟨by rw [g1, g2], g4⟩) hf (by rw [harr]; exact reps_rel hz len)
      obtain ⟨k1, k2⟩ := new_rel r e h4
      refine ⟨_, arr', by rw [Array.toList_map]; exact h3, ?_, k1, k2⟩
      simp only [VRel, ← r.n]
      exact ⟨by simp, by omega, by simp⟩
    · cases hv
  · cases hv
 cases op <;> simp only [cOp] at hc <;> first | (cases hc; done) | skip
 case box t x =>
  obtain ⟨d, hd, rfl⟩ := map_some_cA hc
  have e1 := ev_rel r ha hd
  simp only [effRun] at hv
  split at hv
  · cases hv
    obtain ⟨k1, k2⟩ := new_rel r t e1.cells
    exact does_of (s := Instr.box t (a.eval x)) rfl ⟨_, _, _, by simp [Instr.box, newVar, newRow], new_ptr r _ _, k1, k2⟩
  · cases hv
 case alloc t =>
  split at hc
  · rename_i z hz
    split at hc
    · cases hc
      obtain ⟨rz, hz1, hz2, _⟩ := zeroT_run (ι := ι) hz
      split at hv
      · simp only [effRun, Option.some.injEq, Prod.mk.injEq] at hv
        obtain ⟨rfl, rfl⟩ := hv
        obtain ⟨ι', k0, k1, k2⟩ := typ_new r t hz2.cells
        exact does_of (s := Instr.alloc t true (.tuple #[])) rfl ⟨ι', _, _, by simp [Instr.alloc, hz1, newVar, newRow], (new_ptr r _ _).mono k0, k1, k2⟩
      · simp only [effRun, Option.some.injEq, Prod.mk.injEq] at hv
        obtain ⟨rfl, rfl⟩ := hv
        obtain ⟨k1, k2⟩ := new_rel r t hz2.cells
        exact does_of (s := Instr.alloc t true (.tuple #[])) rfl ⟨_, _, _, by simp [Instr.alloc, hz1, newVar, newRow], new_ptr r _ _, k1, k2⟩
    · cases hc
  · cases hc
 case store t x y =>
  split at hc
  · rename_i n cx cy hs hx hy
    cases hc
    simp only [effRun] at hv
    split at hv
    · rename_i b o hp
      split at hv
      · rename_i hlen
        simp only [Option.map_eq_some_iff, Prod.mk.injEq] at hv
        obtain ⟨h2, hw, rfl, rfl⟩ := hv
        have e1 := ev_rel r ha hx
        have e2 := (ev_rel r ha hy).cells
        rw [hp] at e1
        obtain ⟨hb, e3⟩ := ptr_of e1
        obtain ⟨w', hst, k1, k2⟩ := store_ok (P := P) r hw e2
        have hsz : (a.eval y).cells.size = n := by have := e2.length; simp at this; omega
        exact does_unit (s := Instr.storeAt t (a.eval x) (a.eval y)) rfl ⟨ι, w', by simp [Instr.storeAt, storeVar, e3, Instr.sureAddr, sizeT_run hs, hsz, hst], k1, k2⟩
      · cases hv
    · cases hv
  · cases hc
 case buildSlice t len parts =>
  split at hc
  · rename_i e hu
    split at hc
    · rename_i s hs
      split at hc
      · cases hc
      · rename_i hbig
        split at hc
        · rename_i hz0
          split at hc
          · rename_i hl0
            simp only [Option.map_eq_some_iff] at hc
            obtain ⟨places, hp, rfl⟩ := hc
            subst hl0
            obtain ⟨ι', arr', h1, h2, h3, h4⟩ := slc (e := e) (rz := []) (arr0 := #[]) (by simp [VRels]) hp (by simp) hv
            refine does_of (s := Instr.buildSlice t 0 (parts.map fun (i, x) => (i, a.eval x))) rfl ⟨ι', _, _, ?_, h2, h3, h4⟩
            simp only [Instr.buildSlice, Sem.run_bind, run_underlying hu, Result.andThen_ok, sizeT_run hs]
            simp only [Nat.zero_mul, if_neg (show ¬ (0 > 2 ^ 24) by omega), if_true, Array.range_zero', Array.map_empty]
            rw [h1]
            simp [newRow]
          · cases hc
        · rename_i hz0
          split at hc
          · rename_i z hz
            split at hc
            · rename_i hzl
              simp only [Option.map_eq_some_iff] at hc
              obtain ⟨places, hp, rfl⟩ := hc
              obtain ⟨rz, hz1, hz2, _⟩ := zeroT_run (ι := ι) hz
              have hzs : rz.cells.size = s := by have := hz2.cells.length; simp at this; omega
              have hpos : 0 < rz.cells.size := by
               rw [hzs]; rcases Nat.eq_zero_or_pos s with h0 | h0
               · exact absurd (by rw [h0, Nat.mul_zero]) hz0
               · exact h0
              have hr := range_map rz.cells hpos len
              rw [hzs] at hr
              obtain ⟨ι', arr', h1, h2, h3, h4⟩ := slc (e := e) (arr0 := (Array.range (len * s)).map (rz.cells[· % s]!)) hz2.cells hp hr hv
              refine does_of (s := Instr.buildSlice t len (parts.map fun (i, x) => (i, a.eval x))) rfl ⟨ι', _, _, ?_, h2, h3, h4⟩
              simp only [Instr.buildSlice, Sem.run_bind, run_underlying hu, Result.andThen_ok, sizeT_run hs, if_neg hbig, if_neg hz0, hz1, Sem.run_pure, hzs]
              rw [h1]
              simp [newRow]
            · cases hc
          · cases hc
    · cases hc
  · cases hc
 case makeMap t rs =>
  cases rs <;> simp only at hc
  · cases hc
    simp only [effRun, Option.some.injEq, Prod.mk.injEq] at hv
    obtain ⟨rfl, rfl⟩ := hv
    obtain ⟨k1, k2⟩ := r.push (.map []) (.map #[] 0) 0 0 trivial ⟨#[], 0, by rw [← r.n]; simp only [Emb.add_blk]; exact heap_alloc_new w _, rfl⟩
    refine does_of (s := Instr.makeMap t none) rfl ⟨_, .map (some w.heap.size), w.alloc (.map #[] 0), by simp [Instr.makeMap], ?_, k1, k2⟩
    simp only [VRel, ← r.n]
    exact ⟨by simp, by simp⟩
  · cases hc
 case makeSlice t l cc =>
  split at hc
  · rename_i e hu
    split at hc
    · rename_i i z cl cC hi hz hl hcC
      split at hc
      · rename_i hcond
        cases hc
        obtain ⟨hzl, hpos, hall⟩ := hcond
        have hv : ∃ (k1 k2 : IntKind) (L C : Int), cl.ev tm = .int k1 L ∧ cC.ev tm = .int k2 C ∧ (0 ≤ L ∧ L ≤ C ∧ i.bytes * C ≤ 281474976710656 ∧ C ≤ 1152921504606846976) ∧
            v = .slice (some (h.n, 0)) L.toNat (.exact C.toNat) ∧ (h' = h.push (.cells (reps z.cells C.toNat) false) ∨ h' = (h.push (.cells (reps z.cells C.toNat) false)).push (.typ h.n e)) := by
         split at hv
         · simp only [effRun] at hv
           split at hv
           · rename_i k1 L k2 C hp1 hp2
             split at hv
             · rename_i hb
               cases hv
               exact ⟨k1, k2, L, C, hp1, hp2, hb, rfl, .inr rfl⟩
             · cases hv
           · cases hv
         · simp only [effRun] at hv
           split at hv
           · rename_i k1 L k2 C hp1 hp2
             split at hv
             · rename_i hb
               cases hv
               exact ⟨k1, k2, L, C, hp1, hp2, hb, rfl, .inl rfl⟩
             · cases hv
           · cases hv
        obtain ⟨k1, k2, L, C, hp1, hp2, hb, rfl, hh'⟩ := hv
        · have hv := hh'
          · obtain ⟨hb1, hb2, hb3, hb4⟩ := hb
            have e1 := ev_rel r ha hl
            have e2 := ev_rel r ha hcC
            rw [hp1] at e1
            rw [hp2] at e2
            obtain ⟨rz, hz1, hz2, i', hi', hzv⟩ := zeroT_run (ι := ι) hz
            rw [hi] at hi'; cases hi'
            have hzs : rz.cells.size = i.size := by have := hz2.cells.length; simp at this; omega
            have hr := range_map rz.cells (by omega) C.toNat
            rw [hzs] at hr
            have hR := reps_rel hz2.cells C.toNat
            rw [← hr] at hR
            have hnew : ∃ ι', (ι.add w.heap.size 0 ((Array.range (C.toNat * i.size)).map fun i => rz.cells[i % rz.cells.size]!).size e).le ι' ∧ Rel P.globals.size ι' h' (w.alloc (.cells ((Array.range (C.toNat * i.size)).map fun i => rz.cells[i % rz.cells.size]!) e)) ∧
                Stp ι ι' h h' w (w.alloc (.cells ((Array.range (C.toNat * i.size)).map fun i => rz.cells[i % rz.cells.size]!) e)) := by
             rw [hzs]
             rcases hv with rfl | rfl
             · obtain ⟨k1', k2'⟩ := new_rel r e hR
               exact ⟨_, Emb.le_refl _, k1', k2'⟩
             · exact typ_new r e hR
            obtain ⟨ι', k0', k1', k2'⟩ := hnew
            rw [hzs] at k0' k1' k2'
            have w1 : IntKind.i64.wrap L = L := by unfold IntKind.wrap; simp [IntKind.bits, IntKind.signed]; omega
            have w2 : IntKind.i64.wrap C = C := by unfold IntKind.wrap; simp [IntKind.bits, IntKind.signed]; omega
            refine does_of (s := Instr.makeSlice t (a.eval l) (a.eval cc)) rfl ⟨ι', .slice (some ⟨w.heap.size, 0, none⟩) L.toNat C.toNat, _, ?_, VRel.mono k0' ?_, k1', k2'⟩
            · have c1 : ¬ (C < 0 ∨ 281474976710656 < (i.bytes : Int) * C) := by omega
              have c2 : ¬ (L < 0) := by omega
              have c3 : ¬ (C < L) := by omega
              by_cases hC0 : C.toNat = 0
              · have h0 : C.toNat * i.size = 0 := by rw [hC0, Nat.zero_mul]
                simp [Instr.makeSlice, run_underlying hu, int_of e1, int_of e2, Go.asInt, asIntOf, typeInfo, hi, w1, w2, c1, c2, c3, askRoom, sizeOf, newRow, hC0]
                have hz0 : ∀ f : Nat → Value, Array.map f (Array.range 0) = #[] := fun f => by simp [Array.range_zero']
                rw [hz0, hz0]
              · have h0 : ¬ (C.toNat * i.size = 0) := by
                  intro hh
                  rcases Nat.mul_eq_zero.1 hh with h | h <;> omega
                simp [Instr.makeSlice, run_underlying hu, int_of e1, int_of e2, Go.asInt, asIntOf, typeInfo, hi, w1, w2, c1, c2, c3, askRoom, sizeOf, newRow, h0, hz1, hzs]
            · simp only [VRel, ← r.n]
              exact ⟨by simp, by omega, by simp⟩
      · cases hc
    · cases hc
  · cases hc
 case insert t m k x =>
  split at hc
  · rename_i kt e cm ck cx hu hm hk hx
    simp only [Option.map_eq_some_iff] at hc
    obtain ⟨q, hkt, rfl⟩ := hc
    obtain ⟨rfl, hms⟩ := mapset_ok r ha hu hm hk hx hkt hv
    exact does_unit (s := Instr.mapUpdate t (a.eval m) (a.eval k) (a.eval x)) rfl hms
  · cases hc
 case mapUpdate t m k x =>
  split at hc
  · rename_i kt e cm ck cx hu hm hk hx
    simp only [Option.map_eq_some_iff] at hc
    obtain ⟨q, hkt, rfl⟩ := hc
    obtain ⟨rfl, hms⟩ := mapset_ok r ha hu hm hk hx hkt hv
    exact does_unit (s := Instr.mapUpdate t (a.eval m) (a.eval k) (a.eval x)) rfl hms
  · cases hc
 case convert src dst x =>
  split at hc
  · cases hc; simp [CO.quiet] at hq
  · cases hc; simp [CO.quiet] at hq
  · split at hc
    · cases hc; simp [CO.quiet] at hq
    · cases hc
  · rename_i e d hs hd hx
    split at hc
    · rename_i hu8
      cases hc
      have he : P.underlying e = some (.int .u8) := by
       unfold isU8 at hu8
       split at hu8
       · rename_i h1; exact h1
       · cases hu8
      exact does_of (s := convert src dst (a.eval x)) rfl (s2b_ok r ha hs hd he hx hv)
    · cases hc
  · split at hc
    · cases hc; simp [CO.quiet] at hq
    · cases hc
  · split at hc
    · cases hc; simp [CO.quiet] at hq
    · cases hc
  · cases hc
 case range t x =>
  split at hc
  · rename_i hu
    obtain ⟨d, hd, rfl⟩ := map_some_cA hc
    exact does_of (s := Instr.range t (a.eval x)) rfl (iterS_ok r hu (ev_rel r ha hd) hv)
  · cases hc
 case next x b =>
  cases b <;> simp only at hc <;> first | (cases hc; done) | skip
  obtain ⟨d, hd, rfl⟩ := map_some_cA hc
  exact does_of (s := Instr.next (a.eval x) true type) rfl (nextS_ok r type (ev_rel r ha hd) hv)
 case call cl =>
  obtain ⟨callee, args, ats⟩ := cl
  cases callee
  case value f =>
   simp only at hc
   split at hc
   · cases hc; simp [CO.isCall] at hnc
   · cases hc
  case invoke _ _ => simp at hc
  case builtin b => exact builtin_eff hc hq hv r ha
 all_goals
  exfalso
  revert hq
  (repeat' split at hc) <;> first
    | (cases hc; simp [CO.quiet]; done)
    | (simp only [Option.map_eq_some_iff] at hc; obtain ⟨_, _, rfl⟩ := hc; simp [CO.quiet]; done)
    | (cases hc; done)
end
end Go.Fs
end

section
/- Regions in the text's order; code; calls. -/
namespace Go.Fs
section
variable {P : Program}
def Good (P : Program) (f : Nat) (args : List AV) (h : AH) (v : AV) (h' : AH) : Prop :=
 ∀ (ι : Emb) (w : World) (rargs : List Value), Rel P.globals.size ι h w → VRels ι args rargs →
  Calls P f rargs.toArray w fun e w' => ∃ ι' rv, e = .returned rv ∧ VRel ι' v rv ∧ Rel P.globals.size ι' h' w' ∧ Stp ι ι' h h' w w'
def GoodExt (P : Program) (f : Nat) (args : List AV) (h : AH) (v : AV) (h' : AH) : Prop :=
 (∃ fn, P.funcs[f]? = some fn ∧ fn.body = none) ∧ ∀ (ι : Emb) (w : World) (rargs : List Value), Rel P.globals.size ι h w → VRels ι args rargs →
   ∃ ι' rv w', (callFunc f rargs.toArray).run P w = .ok (.value rv) w' ∧ VRel ι' v rv ∧ Rel P.globals.size ι' h' w' ∧ Stp ι ι' h h' w w'
def GoodAt (P : Program) (f : Nat) (args : List AV) (h : AH) (v : AV) (h' : AH) : Prop :=
 ((∃ fn b, P.funcs[f]? = some fn ∧ fn.body = some b ∧ (fn.name == "runtime.NumGoroutine") = false) ∧ Good P f args h v h') ∨ GoodExt P f args h v h'
def GoodRec (P : Program) (call : Rec) : Prop := ∀ f args h v h', call f args h = some (v, h') → GoodAt P f args h v h'
theorem GoodAt.body {P : Program} {f : Nat} {args : List AV} {h : AH} {v : AV} {h' : AH} (g : GoodAt P f args h v h') (hb : ((P.funcs[f]?).bind (·.body)).isSome = true) :
    (∃ fn b, P.funcs[f]? = some fn ∧ fn.body = some b ∧ (fn.name == "runtime.NumGoroutine") = false) ∧ Good P f args h v h' := by
 rcases g with g | ⟨⟨fn, h1, h2⟩, _⟩
 · exact g
 · rw [h1] at hb; simp [h2] at hb
theorem VRels.toArray {ι : Emb} {vs : List AV} {rs : List Value} (h : VRels ι vs rs) : VRels ι vs rs.toArray.toList := by simpa using h
theorem ARel.put {ι : Emb} {tm : List AV} {a : Act} (h : ARel ι tm a) {v : AV} {rv : Value} (hv : VRel ι v rv) (dst : Option Nat) : ARel ι (put tm dst v) (a.put dst rv) := by
 unfold ARel at *
 cases dst with
 | none => exact h
 | some d =>
   simp only [Fs.put, Act.put, Array.toList_setIfInBounds]
   exact h.set hv d
theorem ARel.mono {ι ι' : Emb} {tm : List AV} {a : Act} (hle : ι.le ι') (h : ARel ι tm a) : ARel ι' tm a := VRels.mono hle h
theorem call_shape {op : Op} {f : CA} {args : List CA} (hc : cOp P op = some (.call f args)) : ∃ cf cargs ats, op = .call ⟨.value cf, cargs, ats⟩ ∧ cA P cf = some f ∧ cAs P cargs = some args := by
 cases op
 case call cl =>
  obtain ⟨callee, cargs, ats⟩ := cl
  cases callee
  case invoke _ _ => simp [cOp] at hc
  case builtin b =>
   exfalso
   simp only [cOp, cBuiltin] at hc
   (repeat' split at hc) <;> first | (cases hc; done) | (simp only [Option.map_eq_some_iff] at hc; obtain ⟨_, _, h0⟩ := hc; cases h0; done)
  case value cf =>
   simp only [cOp] at hc
   split at hc
   · rename_i f0 as0 h1 h2
     cases hc
     exact ⟨cf, cargs, ats, rfl, h1, h2⟩
   · cases hc
 case makeMap t r =>
  exfalso
  cases r <;> simp [cOp] at hc
 case next x b =>
  exfalso
  cases b <;> simp [cOp] at hc
 all_goals
  exfalso
  simp only [cOp] at hc
  (repeat' split at hc) <;> first | (cases hc; done) | (simp only [Option.map_eq_some_iff] at hc; obtain ⟨_, _, h0⟩ := hc; cases h0; done)
theorem op_wp {call : Rec} (hrec : GoodRec P call) {ι : Emb} {h : AH} {w : World} {o : Oper} {c : CO} {tm : List AV} {a : Act} {v : AV} {h' : AH} (hc0 : c = (cOp P o.op).getD .stop) (hv : runOp call c tm h = some (v, h'))
    (r : Rel P.globals.size ι h w) (ha : ARel ι tm a) {next : Act → World → Prop} {Q : Exit → Act → World → Prop}
    (hk : ∀ ι' rv w', VRel ι' v rv → Rel P.globals.size ι' h' w' → Stp ι ι' h h' w w' → next (a.put o.dst rv) w') : o.wp P a w next Q := by
 have hc : cOp P o.op = some c := by
  cases hco : cOp P o.op with
  | none => rw [hco] at hc0; simp only [Option.getD_none] at hc0; subst hc0; simp [runOp, CO.quiet, quietRun] at hv
  | some d => rw [hco] at hc0; simp only [Option.getD_some] at hc0; rw [hc0]
 unfold runOp at hv
 split at hv
 · rename_i hq
   simp only [Option.map_eq_some_iff, Prod.mk.injEq] at hv
   obtain ⟨u, hu, rfl, rfl⟩ := hv
   obtain ⟨rv, h1, h2⟩ := quiet_sound hc hq hu r ha
   unfold Oper.wp
   rw [h1]
   exact hk ι rv w h2 r (Stp.refl _ _ _)
 · rename_i hq
   by_cases hcall : c.isCall = true
   · cases c <;> simp [CO.isCall] at hcall
     rename_i f args
     simp only [effRun] at hv
     obtain ⟨dst, op, type, pos, after, guard⟩ := o
     obtain ⟨cf, cargs, ats, rfl, h1, h2⟩ := call_shape hc
     have e1 := ev_rel r ha h1
     have e2 := evs_rel r ha h2
     split at hv
     · rename_i g first captured hp
       rw [hp] at e1
       simp only [VRel] at e1
       obtain ⟨ra, rc, e3, e4, e5⟩ := e1
       have hargsR := (e4.append e2).append e5
       have harr : (ra.toList ++ (cargs.map a.eval).toList ++ rc.toList).toArray = ra ++ cargs.map a.eval ++ rc := by
        apply Array.ext'; simp
       rcases hrec _ _ _ _ _ hv with ⟨⟨fn, b, g1, g2, g3⟩, hgood⟩ | ⟨_, hext⟩
       case inr =>
        obtain ⟨ι', rv, w', k0, k1, k2, k3⟩ := hext ι w _ r hargsR
        rw [harr] at k0
        unfold Oper.wp
        have hrun : (execOp a.eval ⟨dst, .call ⟨.value cf, cargs, ats⟩, type, pos, after, guard⟩).run P w = .ok (.value rv) w' := by
         rw [← k0]
         simp only [execOp, resolve, Sem.run_bind, e3, Deferred.ofValue, Sem.run_pure, Result.andThen_ok, invoke]
        rw [hrun]
        exact hk ι' rv w' k1 k2 k3
       have hcalls := hgood ι w (ra.toList ++ (cargs.map a.eval).toList ++ rc.toList) r ((e4.append e2).append e5)
       unfold Oper.wp
       have hrun : (execOp a.eval ⟨dst, .call ⟨.value cf, cargs, ats⟩, type, pos, after, guard⟩).run P w = .ok (.enter g (ra ++ cargs.map a.eval ++ rc)) w := by
        have g3' : ¬ ((fn.name == "runtime.NumGoroutine") = true) := by simp [g3]
        simp only [execOp, resolve, Sem.run_bind, e3, Deferred.ofValue, Sem.run_pure, Result.andThen_ok, invoke, callFunc, run_program, g1, if_neg g3', g2, Option.isNone_some, Bool.false_eq_true, if_false]
       rw [hrun]
       simp only [Oper.upon]
       rw [harr] at hcalls
       refine hcalls.mono fun e w' ⟨ι', rv, he, k1, k2, k3⟩ => ?_
       subst he
       exact hk ι' rv w' k1 k2 k3
     · cases hv
   · obtain ⟨ι', rv, w', h1, h2, h3, h4⟩ := eff_sound hc (by simpa using hq) (by simpa using hcall) hv r ha
     unfold Oper.wp
     rcases h1 with h1 | ⟨h1, h5⟩
     · rw [h1]; exact hk ι' rv w' h2 h3 h4
     · rw [h1]; subst h5; exact hk ι' _ w' h2 h3 h4
theorem wanted_eq {ops : Array Oper} {o : Oper} {g : Option (Nat × Bool)} (hg : cGuard ops o.guard = some g) {ι : Emb} {tm : List AV} {a : Act} (ha : ARel ι tm a) (dst : Option Nat) (c : CO) :
    Region.wanted o (yielded ops a.tmps) = (CR.mk dst c g).wanted tm := by
 unfold Region.wanted CR.wanted
 cases hgo : o.guard with
 | none => simp only [hgo, cGuard, Option.some.injEq] at hg; subst hg; rfl
 | some jw =>
   obtain ⟨j, want⟩ := jw
   simp only [hgo, cGuard] at hg
   split at hg
   · rename_i t ht
     cases hg
     simp only
     have hT := VRels.getD ha t
     have hy : yielded ops a.tmps j = match tm.getD t AV.undef with | .bool b => some b | _ => none := by
      unfold yielded
      rw [ht]
      simp only [Option.bind_some]
      by_cases hlt : t < a.tmps.toList.length
      · have h1 : a.tmps[t]? = some (a.tmps.toList.getD t Go.undef) := by
          simp at hlt
          simp [hlt]
        rw [h1]
        generalize a.tmps.toList.getD t Go.undef = rv at hT
        generalize tm.getD t AV.undef = av at hT
        match av, hT with
        | .bool b, hT => rw [bool_of hT]
        | .int _ _, hT | .str _, hT | .ptr none, hT | .map none, hT | .nilFunc, hT | .nilIface, hT => simp only [VRel] at hT; subst hT; rfl
        | .ptr (some (_, _)), hT => simp only [VRel] at hT; obtain ⟨_, rfl⟩ := hT; rfl
        | .map (some _), hT => simp only [VRel] at hT; obtain ⟨_, rfl⟩ := hT; rfl
        | .slice none _ (.exact _), hT => simp only [VRel] at hT; obtain ⟨_, _, rfl⟩ := hT; rfl
        | .slice none _ (.opn _), hT => simp only [VRel] at hT
        | .slice (some (_, _)) _ (.exact _), hT => simp only [VRel] at hT; obtain ⟨_, _, _, rfl, _⟩ := hT; rfl
        | .slice (some (_, _)) _ (.opn _), hT => simp only [VRel] at hT; obtain ⟨_, _, _, _, rfl, _⟩ := hT; rfl
        | .func _ _ _, hT => simp only [VRel] at hT; obtain ⟨_, _, rfl, _⟩ := hT; rfl
        | .iface _ _, hT => simp only [VRel] at hT; obtain ⟨_, rfl, _⟩ := hT; rfl
        | .tuple _, hT => simp only [VRel] at hT; obtain ⟨_, rfl, _⟩ := hT; rfl
        | .agg _, hT => simp only [VRel] at hT; obtain ⟨_, rfl, _⟩ := hT; rfl
        | .junk _, hT =>
          simp only [VRel] at hT
          cases rv <;> first | rfl | exact absurd rfl (hT.2.1 _)
      · have h1 : a.tmps[t]? = none := by simp at hlt; simp [hlt]
        have hl : a.tmps.toList.length = tm.length := VRels.length ha
        have h2 : tm.getD t AV.undef = AV.undef := by
         have hge : tm.length ≤ t := by rw [← hl]; exact Nat.le_of_not_lt hlt
         rw [List.getD_eq_getElem?_getD, List.getElem?_eq_none hge]; rfl
        rw [h1, h2]
        rfl
     rw [hy]
     cases tm.getD t AV.undef <;> rfl
   · cases hg
theorem ops_wp {call : Rec} (hrec : GoodRec P call) {ops : Array Oper} {Q : Exit → Act → World → Prop} : ∀ (l : List Oper) (cs : List CR) (tm tm' : List AV) (h h' : AH) (ι : Emb) (w : World) (a : Act),
    l.mapM (cOper P ops) = some cs → runOps call cs tm h = some (tm', h') → Rel P.globals.size ι h w → ARel ι tm a →
    (∀ ι' w' a', a'.defers = a.defers → ARel ι' tm' a' → Rel P.globals.size ι' h' w' → Stp ι ι' h h' w w' → Q .normal a' w') → wpList P ops Q l a w
 | [], cs, tm, tm', h, h', ι, w, a, hm, hr, r, ha, hk => by
   simp at hm
   subst hm
   simp only [runOps, Option.some.injEq, Prod.mk.injEq] at hr
   obtain ⟨rfl, rfl⟩ := hr
   exact hk ι w a rfl ha r (Stp.refl _ _ _)
 | o :: l, cs, tm, tm', h, h', ι, w, a, hm, hr, r, ha, hk => by
   rw [List.mapM_cons] at hm
   cases ho : cOper P ops o with
   | none => simp [ho] at hm
   | some cr =>
     cases hl : l.mapM (cOper P ops) with
     | none => simp [ho, hl] at hm
     | some crs =>
       simp [ho, hl] at hm
       subst hm
       unfold cOper at ho
       split at ho
       · rename_i g hg
         cases ho
         have hw := wanted_eq hg ha o.dst ((cOp P o.op).getD .stop)
         refine wpList_step fun K hK => ?_
         rw [hw]
         simp only [runOps] at hr
         split at hr
         · rename_i hwant
           rw [if_pos hwant]
           simp only [Option.bind_eq_some_iff] at hr
           obtain ⟨⟨v, h1⟩, hrun, hrest⟩ := hr
           refine op_wp hrec rfl hrun r ha fun ι' rv w' k1 k2 k3 => hK _ _ ?_
           exact ops_wp hrec l crs _ tm' h1 h' ι' w' _ hl hrest k2 ((ha.mono k3.le).put k1 _) fun ι2 w2 a2 d1 d2 d3 d4 =>
            hk ι2 w2 a2 (by rw [d1]; cases o.dst <;> rfl) d2 d3 (k3.trans d4)
         · rename_i hwant
           rw [if_neg hwant]
           refine hK _ _ ?_
           exact ops_wp hrec l crs _ tm' h h' ι w _ hl hr r (ha.put VRel.undef _) fun ι2 w2 a2 d1 d2 d3 d4 => hk ι2 w2 a2 (by rw [d1]; cases o.dst <;> rfl) d2 d3 d4
       · cases ho
end
end Go.Fs
end

section
/- A region whose order is open: the text's order tells what comes of each. -/
namespace Go.Fs
theorem ev_congr {tm tm' : List AV} {x : CA} (h : ∀ i, x = .t i → tm.getD i AV.undef = tm'.getD i AV.undef) : x.ev tm = x.ev tm' := by
 cases x <;> first | rfl | exact h _ rfl
theorem bounds_congr {tm tm' : List AV} {lo hi mx : Option CA} (h : ∀ x ∈ lo.toList ++ hi.toList ++ mx.toList, x.ev tm = x.ev tm') (len cap : Nat) : bounds3 tm len cap lo hi mx = bounds3 tm' len cap lo hi mx := by
 have hl : ∀ y d, optBound tm y d lo = optBound tm' y d lo := fun y d => by
  cases lo with
  | none => rfl
  | some x => simp only [optBound]; rw [h x (by simp)]
 have hm : ∀ y d, optBound tm y d mx = optBound tm' y d mx := fun y d => by
  cases mx with
  | none => rfl
  | some x => simp only [optBound]; rw [h x (by simp)]
 have hh : ∀ m, highOf tm m len hi mx = highOf tm' m len hi mx := fun m => by
  cases hi with
  | none => cases mx <;> rfl
  | some x => simp only [highOf]; rw [h x (by simp)]
 unfold bounds3
 simp only [hl, hm, hh]
theorem fill_congr {tm tm' : List AV} : ∀ (ps : List (Nat × Nat × CA)) (cs : List AV), (∀ p ∈ ps, (p.2.2).ev tm = (p.2.2).ev tm') → fillA tm cs ps = fillA tm' cs ps
 | [], cs, _ => rfl
 | (off, size, x) :: ps, cs, h => by
   have hx : x.ev tm = x.ev tm' := h (off, size, x) (by simp)
   simp only [fillA, hx]
   split
   · exact fill_congr ps _ fun p hp => h p (by simp [hp])
   · rfl
theorem quiet_congr {tm tm' : List AV} {hp : AH} (o : CO) (h : ∀ x ∈ o.args, x.ev tm = x.ev tm') : quietRun o tm hp = quietRun o tm' hp := by
 cases o
 case clo fn a b =>
  simp only [CO.args] at h
  simp only [quietRun]
  rw [List.map_congr_left fun x hx => h x (by simp [hx]), List.map_congr_left (l := b) fun x hx => h x (by simp [hx])]
 case slcS x lo hi =>
  simp only [CO.args] at h
  have hb : ∀ n m, bounds3 tm n m lo hi none = bounds3 tm' n m lo hi none := fun n m => bounds_congr (fun y hy => h y (by simp at hy; simp; exact .inr hy)) n m
  simp only [quietRun, h x (by simp), hb]
 case slcV e x lo hi mx =>
  simp only [CO.args] at h
  have hb : ∀ n m, bounds3 tm n m lo hi mx = bounds3 tm' n m lo hi mx := fun n m => bounds_congr (fun y hy => h y (by rw [List.mem_cons]; exact .inr hy)) n m
  have hb0 : mx = none → ∀ n m, bounds3 tm n m lo hi none = bounds3 tm' n m lo hi none := fun h0 n m => by rw [← h0]; exact hb n m
  cases mx with
  | none => simp only [quietRun, h x (by simp), hb]
  | some y => simp only [quietRun, h x (by simp), hb]
 case slcA n e x lo hi mx =>
  simp only [CO.args] at h
  have hb : ∀ n m, bounds3 tm n m lo hi mx = bounds3 tm' n m lo hi mx := fun n m => bounds_congr (fun y hy => h y (by rw [List.mem_cons]; exact .inr hy)) n m
  simp only [quietRun, h x (by simp), hb]
 case build z ps =>
  simp only [CO.args, List.mem_map] at h
  simp only [quietRun]
  rw [fill_congr ps z fun p hp => h _ ⟨p, hp, rfl⟩]
 case pick a b c =>
  simp only [CO.args] at h
  simp only [quietRun, h a (by simp), h b (by simp), h c (by simp)]
 case lookup q z ok x y =>
  simp only [CO.args] at h
  simp only [quietRun, h x (by simp), h y (by simp)]
 case bin op e x y =>
  simp only [CO.args] at h
  simp only [quietRun, h x (by simp), h y (by simp)]
 case iaddrS e x y =>
  simp only [CO.args] at h
  simp only [quietRun, h x (by simp), h y (by simp)]
 case iaddrA n e x y =>
  simp only [CO.args] at h
  simp only [quietRun, h x (by simp), h y (by simp)]
 case idxS x y =>
  simp only [CO.args] at h
  simp only [quietRun, h x (by simp), h y (by simp)]
 case idxA n e g x y =>
  simp only [CO.args] at h
  simp only [quietRun, h x (by simp), h y (by simp)]
 case minI x y =>
  simp only [CO.args] at h
  simp only [quietRun, h x (by simp), h y (by simp)]
 case maxI x y =>
  simp only [CO.args] at h
  simp only [quietRun, h x (by simp), h y (by simp)]
 all_goals first
  | rfl
  | (simp only [CO.args] at h; simp only [quietRun]; rw [h _ (by simp)])
theorem eff_congr {call : Rec} {tm tm' : List AV} {hp : AH} (o : CO) (h : ∀ x ∈ o.args, x.ev tm = x.ev tm') : effRun call o tm hp = effRun call o tm' hp := by
 cases o
 case store n x y =>
  simp only [CO.args] at h
  simp only [effRun, h x (by simp), h y (by simp)]
 case mkS b e z x y =>
  simp only [CO.args] at h
  simp only [effRun, h x (by simp), h y (by simp)]
 case litS e n z ps =>
  simp only [CO.args, List.mem_map] at h
  simp only [effRun]
  rw [fill_congr ps _ fun p hp => h _ ⟨p, hp, rfl⟩]
 case mapset q m k v =>
  simp only [CO.args] at h
  simp only [effRun, h m (by simp), h k (by simp), h v (by simp)]
 case append e b x y =>
  simp only [CO.args] at h
  simp only [effRun, h x (by simp), h y (by simp)]
 case appz e b z x y =>
  simp only [CO.args] at h
  simp only [effRun, h x (by simp), h y (by simp)]
 case mkST t b e z x y =>
  simp only [CO.args] at h
  simp only [effRun, h x (by simp), h y (by simp)]
 case appendT t e b x y =>
  simp only [CO.args] at h
  simp only [effRun, h x (by simp), h y (by simp)]
 case ustr t x y =>
  simp only [CO.args] at h
  simp only [effRun, h x (by simp), h y (by simp)]
 case copy e x y =>
  simp only [CO.args] at h
  simp only [effRun, h x (by simp), h y (by simp)]
 case call f as =>
  simp only [CO.args] at h
  simp only [effRun, h f (by simp)]
  rw [List.map_congr_left fun x hx => h x (by simp [hx])]
 all_goals first
  | rfl
  | (simp only [CO.args] at h; simp only [effRun]; rw [h _ (by simp)])
theorem reads_not {tm : List AV} (o : CO) (hr : o.reads = false) (hq : o.quiet = true) (hp hp' : AH) : quietRun o tm hp = quietRun o tm hp' := by
 cases o <;> simp [CO.reads] at hr <;> simp [CO.quiet] at hq <;> rfl
theorem calm_congr {call : Rec} {tm tm' : List AV} {hp : AH} (o : CD) (h : ∀ x ∈ o.op.args, x.ev tm = x.ev tm') : calmRun call o tm hp = calmRun call o tm' hp := by
 unfold calmRun
 rw [quiet_congr o.op h]
 split
 · rfl
 · unfold stillRun
   split
   · rename_i f as ho
     rw [eff_congr o.op h]
   · rfl
theorem looks_ev {o : CR} {tm tm' : List AV} (h : ∀ t ∈ o.looks, tm.getD t AV.undef = tm'.getD t AV.undef) : (∀ x ∈ o.op.args, x.ev tm = x.ev tm') ∧ o.wanted tm = o.wanted tm' := by
 refine ⟨fun x hx => ev_congr fun i hi => h i ?_, ?_⟩
 · subst hi
   exact List.mem_append_left _ (List.mem_filterMap.2 ⟨.t i, hx, rfl⟩)
 · unfold CR.wanted
   cases hg : o.guard with
   | none => rfl
   | some jw =>
     obtain ⟨j, want⟩ := jw
     simp only
     rw [h j (by simp [CR.looks, hg])]
theorem length_put (tm : List AV) (d : Option Nat) (v : AV) : (put tm d v).length = tm.length := by cases d <;> simp [put]
theorem getD_put (tm : List AV) (d : Option Nat) (v : AV) (t : Nat) : (put tm d v).getD t AV.undef = if d = some t ∧ t < tm.length then v else tm.getD t AV.undef := by
 cases d with
 | none => simp [put]
 | some d =>
   simp only [put, List.getD_eq_getElem?_getD, List.getElem?_set, Option.some.injEq]
   by_cases h1 : d = t
   · subst h1
     by_cases h2 : d < tm.length
     · simp [h2]
     · simp [h2]
   · simp [h1]
def foldS (tm : List AV) (dst : Nat → Option Nat) (v : Nat → AV) (S : Nat → Bool) : Nat → List AV
 | 0 => tm
 | n + 1 => if S n then put (foldS tm dst v S n) (dst n) (v n) else foldS tm dst v S n
section
variable (tm : List AV) (dst : Nat → Option Nat) (v : Nat → AV)
theorem foldS_succ (S : Nat → Bool) (n : Nat) : foldS tm dst v S (n + 1) = if S n then put (foldS tm dst v S n) (dst n) (v n) else foldS tm dst v S n := rfl
theorem length_foldS (S : Nat → Bool) : ∀ n, (foldS tm dst v S n).length = tm.length
 | 0 => rfl
 | n + 1 => by rw [foldS_succ]; split <;> simp [length_put, length_foldS S n]
theorem foldS_agree {S S' : Nat → Bool} {t : Nat} : ∀ n, (∀ k, k < n → dst k = some t → S k = S' k) → (foldS tm dst v S n).getD t AV.undef = (foldS tm dst v S' n).getD t AV.undef
 | 0, _ => rfl
 | n + 1, h => by
   have ih := foldS_agree n fun k hk => h k (by omega)
   have e : ∀ (R : Nat → Bool), (foldS tm dst v R (n + 1)).getD t AV.undef = if R n = true ∧ dst n = some t ∧ t < tm.length then v n else (foldS tm dst v R n).getD t AV.undef := fun R => by
    rw [foldS_succ]
    by_cases h1 : R n = true
    · simp only [h1, if_true, getD_put, length_foldS, true_and]
    · simp [h1]
   rw [e S, e S', ih]
   by_cases hd : dst n = some t
   · rw [h n (by omega) hd]
   · simp [hd]
theorem foldS_upto {S : Nat → Bool} {t i : Nat} : ∀ n, i ≤ n → (∀ k, i ≤ k → k < n → dst k = some t → S k = false) → (foldS tm dst v S n).getD t AV.undef = (foldS tm dst v S i).getD t AV.undef
 | 0, hi, _ => by have : i = 0 := by omega
                  subst this; rfl
 | n + 1, hi, h => by
   by_cases he : i = n + 1
   · subst he; rfl
   · rw [← foldS_upto n (by omega) fun k hk hkn => h k hk (by omega)]
     rw [foldS_succ]
     split
     · rename_i hS
       rw [getD_put]
       by_cases hd : dst n = some t
       · rw [h n (by omega) (by omega) hd] at hS; cases hS
       · simp [hd]
     · rfl
theorem foldS_add {S : Nat → Bool} {i n : Nat} (hi : i < n) (_hS : S i = false) (hlast : ∀ k, i < k → k < n → S k = true → dst k ≠ dst i ∨ dst i = none) (t : Nat) :
    (foldS tm dst v (fun k => S k || k == i) n).getD t AV.undef = (put (foldS tm dst v S n) (dst i) (v i)).getD t AV.undef := by
 rw [getD_put, length_foldS]
 by_cases hd : dst i = some t
 · have h1 := foldS_upto tm dst v (S := fun k => S k || k == i) (t := t) (i := i + 1) n (by omega) fun k hk hkn hdk => by
     cases hSk : S k with
     | true => rcases hlast k (by omega) hkn hSk with h | h
               · exact absurd (hdk.trans hd.symm) h
               · rw [hd] at h; cases h
     | false => simp; omega
   rw [h1, foldS_succ]
   simp only [beq_self_eq_true, Bool.or_true, if_true, getD_put, length_foldS]
   by_cases hlt : t < tm.length
   · simp [hd, hlt]
   · simp only [hd, hlt, and_false, if_false]
     rw [List.getD_eq_getElem?_getD, List.getD_eq_getElem?_getD, List.getElem?_eq_none (by rw [length_foldS]; omega), List.getElem?_eq_none (by rw [length_foldS]; omega)]
 · simp only [hd, false_and, if_false]
   exact foldS_agree tm dst v n fun k hk hdk => by
    have : k ≠ i := fun e => hd (e ▸ hdk)
    simp [this]
end
end Go.Fs
end

section
/- A region whose order is open: what the text's order tells holds of every order. -/
namespace Go.Fs
theorem foldS_shift (v : Nat → AV) (dst : Nat → Option Nat) : ∀ (n : Nat) (tm : List AV), foldS tm dst v (fun _ => true) (n + 1) = foldS (put tm (dst 0) (v 0)) (fun k => dst (k + 1)) (fun k => v (k + 1)) (fun _ => true) n
 | 0, tm => by simp [foldS]
 | n + 1, tm => by
   rw [foldS_succ, foldS_shift v dst n tm, foldS_succ]
def dstAt (l : List CD) (i : Nat) : Option Nat := (l[i]?).bind (·.dst)
def valAt (rs : List (List AV × AV × Bool)) (i : Nat) : AV := ((rs[i]?).map (·.2.1)).getD AV.undef
def cnt (l : List CD) (i : Nat) : Nat := ((l.take i).filter fun o => !o.calm).length
structure TrAt (call : Rec) (l : List CD) (rs : List (List AV × AV × Bool)) (hs : List AH) (tm : List AV) (i : Nat) (o : CD) : Prop where
 row : rs[i]? = some (foldS tm (dstAt l) (valAt rs) (fun _ => true) i, valAt rs i, o.wanted (foldS tm (dstAt l) (valAt rs) (fun _ => true) i))
 here : ∃ h, hs[cnt l i]? = some h ∧
  (o.wanted (foldS tm (dstAt l) (valAt rs) (fun _ => true) i) = true → o.calm = true → calmRun call o (foldS tm (dstAt l) (valAt rs) (fun _ => true) i) h = some (valAt rs i)) ∧
  (o.wanted (foldS tm (dstAt l) (valAt rs) (fun _ => true) i) = true → o.calm = false → ∃ h', hs[cnt l i + 1]? = some h' ∧ effRun call o.op (foldS tm (dstAt l) (valAt rs) (fun _ => true) i) h = some (valAt rs i, h')) ∧
  (o.wanted (foldS tm (dstAt l) (valAt rs) (fun _ => true) i) = false → valAt rs i = AV.undef ∧ (o.calm = false → hs[cnt l i + 1]? = some h))
theorem runT_trace (call : Rec) : ∀ (l : List CD) (tm : List AV) (h : AH) (rs : List (List AV × AV × Bool)) (hs : List AH) (tm' : List AV), runT call l tm h = some (rs, hs, tm') →
    rs.length = l.length ∧ hs.length = cnt l l.length + 1 ∧ hs[0]? = some h ∧ tm' = foldS tm (dstAt l) (valAt rs) (fun _ => true) l.length ∧ ∀ i o, l[i]? = some o → TrAt call l rs hs tm i o
 | [], tm, h, rs, hs, tm', hr => by
   simp only [runT, Option.some.injEq, Prod.mk.injEq] at hr
   obtain ⟨rfl, rfl, rfl⟩ := hr
   exact ⟨rfl, by simp [cnt], rfl, rfl, fun i o ho => by simp at ho⟩
 | o :: l, tm, h, rs, hs, tm', hr => by
   have main : ∀ (v : AV) (wt : Bool) (h1 : AH) (rs1 : List (List AV × AV × Bool)) (hs1 : List AH), wt = o.wanted tm → runT call l (put tm o.dst v) h1 = some (rs1, hs1, tm') → rs = (tm, v, wt) :: rs1 → hs = (if o.calm then hs1 else h :: hs1) →
       (wt = true → o.calm = true → calmRun call o tm h = some v) → (wt = true → o.calm = false → effRun call o.op tm h = some (v, h1)) → (wt = false → v = AV.undef ∧ h1 = h) → (o.calm = true → h1 = h) →
       rs.length = (o :: l).length ∧ hs.length = cnt (o :: l) (o :: l).length + 1 ∧ hs[0]? = some h ∧ tm' = foldS tm (dstAt (o :: l)) (valAt rs) (fun _ => true) (o :: l).length ∧
        ∀ i o', (o :: l)[i]? = some o' → TrAt call (o :: l) rs hs tm i o' := fun v wt h1 rs1 hs1 hwt hrun hrs hhs hq he hn hqh => by
    obtain ⟨g1, g2, g3, g4, g5⟩ := runT_trace call l _ h1 rs1 hs1 tm' hrun
    subst hrs
    have hd0 : dstAt (o :: l) 0 = o.dst := rfl
    have hv0 : valAt ((tm, v, wt) :: rs1) 0 = v := rfl
    have hds : (fun k => dstAt (o :: l) (k + 1)) = dstAt l := by funext k; simp [dstAt]
    have hvs : (fun k => valAt ((tm, v, wt) :: rs1) (k + 1)) = valAt rs1 := by funext k; simp [valAt]
    have hf : ∀ i, foldS tm (dstAt (o :: l)) (valAt ((tm, v, wt) :: rs1)) (fun _ => true) (i + 1) = foldS (put tm o.dst v) (dstAt l) (valAt rs1) (fun _ => true) i := fun i => by
     rw [foldS_shift, hd0, hv0, hds, hvs]
    have hc : ∀ i, cnt (o :: l) (i + 1) = (if o.calm then 0 else 1) + cnt l i := fun i => by
     simp only [cnt, List.take_succ_cons, List.filter_cons]
     cases o.calm <;> simp <;> omega
    have hidx : ∀ j : Nat, hs[(if o.calm then 0 else 1) + j]? = hs1[j]? := fun j => by
     rw [hhs]
     cases o.calm
     · simp [Nat.add_comm]
     · simp
    refine ⟨by simp [g1], ?_, ?_, ?_, fun i o' ho' => ?_⟩
    · rw [List.length_cons, hc, hhs]
      cases o.calm <;> simp [g2] <;> omega
    · rw [hhs]
      cases hqq : o.calm
      · simp
      · simp [g3, hqh hqq]
    · rw [List.length_cons, hf]; exact g4
    · cases i with
      | zero =>
        simp only [List.getElem?_cons_zero, Option.some.injEq] at ho'
        subst ho'
        have hcz : cnt (o :: l) 0 = 0 := rfl
        have hh0 : hs[0]? = some h := by
         rw [hhs]
         cases hqq : o.calm
         · simp
         · simp [g3, hqh hqq]
        refine ⟨by (rw [hv0, List.getElem?_cons_zero]; show some _ = some (tm, v, o.wanted tm); rw [hwt]), h, by rw [hcz]; exact hh0, fun hw hqq => ?_, fun hw hqq => ?_, fun hw => ?_⟩
        · exact hq (hwt.trans hw) hqq
        · refine ⟨h1, ?_, he (hwt.trans hw) hqq⟩
          have := hidx 0
          rw [hqq] at this
          simp only [hcz]
          simpa [g3] using this
        · obtain ⟨e1, e2⟩ := hn (hwt.trans hw)
          refine ⟨e1, fun hqq => ?_⟩
          have := hidx 0
          rw [hqq] at this
          simp only [hcz]
          rw [← e2]
          simpa [g3] using this
      | succ i =>
        obtain ⟨t1, h2, t2, t3, t4, t5⟩ := g5 i o' (by simpa using ho')
        have hvi : valAt ((tm, v, wt) :: rs1) (i + 1) = valAt rs1 i := by simp [valAt]
        refine ⟨by rw [hf, hvi]; simpa using t1, h2, by rw [hc, hidx]; exact t2, ?_, ?_, ?_⟩
        · rw [hf, hvi]; exact t3
        · rw [hf, hvi]
          intro hw hqq
          obtain ⟨h', e1, e2⟩ := t4 hw hqq
          exact ⟨h', by rw [hc, Nat.add_assoc, hidx]; exact e1, e2⟩
        · rw [hf, hvi]
          intro hw
          obtain ⟨e1, e2⟩ := t5 hw
          exact ⟨e1, fun hqq => by rw [hc, Nat.add_assoc, hidx]; exact e2 hqq⟩
   simp only [runT] at hr
   split at hr
   · rename_i hw
     split at hr
     · rename_i hqq
       simp only [Option.bind_eq_some_iff, Option.map_eq_some_iff] at hr
       obtain ⟨v, hv, ⟨rs1, hs1, tm1⟩, hrun, he⟩ := hr
       cases he
       exact main v true h rs1 hs1 hw.symm hrun rfl (by simp [hqq]) (fun _ _ => hv) (fun _ h0 => by rw [hqq] at h0; cases h0) (fun h0 => by cases h0) (fun _ => rfl)
     · rename_i hqq
       simp only [Option.bind_eq_some_iff, Option.map_eq_some_iff] at hr
       obtain ⟨⟨v, h1⟩, hv, ⟨rs1, hs1, tm1⟩, hrun, he⟩ := hr
       cases he
       exact main v true h1 rs1 hs1 hw.symm hrun rfl (by simp [hqq]) (fun _ h0 => absurd h0 hqq) (fun _ _ => hv) (fun h0 => by cases h0) (fun h0 => absurd h0 hqq)
   · rename_i hw
     simp only [Option.map_eq_some_iff] at hr
     obtain ⟨⟨rs1, hs1, tm1⟩, hrun, he⟩ := hr
     cases he
     exact main AV.undef false h rs1 hs1 (by simpa using hw) hrun rfl rfl (fun h0 => by cases h0) (fun h0 => by cases h0) (fun _ => ⟨rfl, rfl⟩) (fun _ => rfl)
theorem steady_at {call : Rec} {hs : List AH} : ∀ (l : List CD) (rs : List (List AV × AV × Bool)) (i : Nat) (o : CD) (tm : List AV) (v : AV) (wt : Bool), steady call hs l rs = true → l[i]? = some o → rs[i]? = some (tm, v, wt) → wt = true → o.calm = true → o.looksIn = true →
    ∀ (k : Nat) (h : AH), o.lo ≤ k → k ≤ o.hi → hs[k]? = some h → calmRun call o tm h = some v
 | [], _, i, o, tm, v, wt, _, ho, _, _, _, _, k, h, _, _, _ => by simp at ho
 | _ :: _, [], i, o, tm, v, wt, _, _, hr, _, _, _, k, h, _, _, _ => by simp at hr
 | o0 :: l, (tm0, v0, wt0) :: rs, i, o, tm, v, wt, hst, ho, hr, hwt, hq, hrd, k, h, hlo, hhi, hk => by
   simp only [steady, Bool.and_eq_true] at hst
   cases i with
   | zero =>
     simp only [List.getElem?_cons_zero, Option.some.injEq, Prod.mk.injEq] at ho hr
     subst ho
     obtain ⟨rfl, rfl, rfl⟩ := hr
     have h1 := hst.1
     rw [hwt, hq, hrd] at h1
     simp only [Bool.and_self, Bool.not_true, Bool.false_or, List.all_eq_true] at h1
     have h2 := h1 h (List.mem_of_getElem? (i := k - o0.lo) (by
      rw [List.getElem?_take, if_pos (by omega), List.getElem?_drop]
      rw [show o0.lo + (k - o0.lo) = k by omega]; exact hk))
     unfold agrees at h2
     split at h2
     · rename_i u hu; rw [hu, AV.same_eq h2]
     · cases h2
   | succ i => exact steady_at l rs i o tm v wt hst.2 (by simpa using ho) (by simpa using hr) hwt hq hrd k h hlo hhi hk
end Go.Fs
end

