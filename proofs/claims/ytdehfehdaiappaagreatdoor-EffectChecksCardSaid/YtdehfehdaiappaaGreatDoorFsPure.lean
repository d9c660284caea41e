/- Calls that are handed no places and hand back none: what they come to over an empty heap, they come to over each. -/
import Derived.Test.YtdehfehdaiappaaGreatDoorFsWp
namespace Go.Fs

section
variable {P : Program}

theorem under_any {ι ι' : Emb} {v : AV} {rv : Value} (h : VRel ι v rv) (hu : v.under 0 = true) : VRel ι' v rv := by
  have e0 : ∀ j : Emb, (⟨0, j.blk, j.sh, j.size, j.ty⟩ : Emb).le j := fun j => ⟨Nat.zero_le _, fun _ _ => rfl, fun _ _ => rfl, fun _ _ => rfl, fun _ _ => rfl⟩
  have h1 := VRel.back (e0 ι) h hu
  have e1 : (⟨0, ι.blk, ι.sh, ι.size, ι.ty⟩ : Emb).le ι' := ⟨Nat.zero_le _, fun b hb => absurd hb (Nat.not_lt_zero _), fun b hb => absurd hb (Nat.not_lt_zero _), fun b hb => absurd hb (Nat.not_lt_zero _), fun b hb => absurd hb (Nat.not_lt_zero _)⟩
  exact h1.mono e1

theorem unders_any {ι ι' : Emb} {v : List AV} {rv : List Value} (h : VRels ι v rv) (hu : AV.unders 0 v = true) : VRels ι' v rv := by
  have e0 : ∀ j : Emb, (⟨0, j.blk, j.sh, j.size, j.ty⟩ : Emb).le j := fun j => ⟨Nat.zero_le _, fun _ _ => rfl, fun _ _ => rfl, fun _ _ => rfl, fun _ _ => rfl⟩
  have h1 := VRels.back (e0 ι) h hu
  have e1 : (⟨0, ι.blk, ι.sh, ι.size, ι.ty⟩ : Emb).le ι' := ⟨Nat.zero_le _, fun b hb => absurd hb (Nat.not_lt_zero _), fun b hb => absurd hb (Nat.not_lt_zero _), fun b hb => absurd hb (Nat.not_lt_zero _), fun b hb => absurd hb (Nat.not_lt_zero _)⟩
  exact h1.mono e1

theorem Rel.live_lt {G : Nat} {ι : Emb} {h : AH} {w : World} (r : Rel G ι h w) {b : Nat} {c : Blk} (hb : h.get b = some c) (hl : c.live) : ι.blk b < w.heap.size := by
  have := r.brel b c hb
  cases c with
  | cells cs ro => obtain ⟨arr, e, fr, h1, _⟩ := this; exact (Array.getElem?_eq_some_iff.1 h1).1
  | map es => obtain ⟨rs, cl, h1, _⟩ := this; exact (Array.getElem?_eq_some_iff.1 h1).1
  | iter s p => exact (Array.getElem?_eq_some_iff.1 this.1).1
  | typ _ _ => exact hl.elim
  | dead => exact hl.elim

/-- A world in which all that was there is as it was. -/
theorem Rel.later {G : Nat} {ι : Emb} {h : AH} {w w' : World} (r : Rel G ι h w) (hk : ∀ k, k < w.heap.size → w'.heap[k]? = w.heap[k]?) : Rel G ι h w' :=
  ⟨r.n, r.dom, r.gn, r.glob, fun b c hb => (r.brel b c hb).mono (by rw [r.n]; exact r.dom b c hb) ι.le_refl fun hl => hk _ (r.live_lt hb hl), r.sep⟩

theorem Stp.later {ι ι' ι0 : Emb} {h0 h' h : AH} {w w' : World} (s : Stp ι0 ι' h0 h' w w') (hn : ∀ b, h0.get b = none) : Stp ι ι h h w w' :=
  ⟨ι.le_refl, s.os, s.tape, s.output, s.size, fun k hk _ => s.kept k hk fun b c hb => (by rw [hn] at hb; cases hb), fun b c hb hc => .inr ⟨b, c, hb, hc, rfl⟩, Nat.le_refl _, Nat.le_refl _, fun _ _ _ => rfl⟩

theorem good_pure (hm : P.follows .mixedOrders = true) {n f : Nat} (hb : ((P.funcs[f]?).bind (·.body)).isSome = true) {args : List AV} {v : AV} {h0 : AH} (hr : run (tbl P) n f args (start P.globals.size) = some (v, h0)) (ha : AV.unders 0 args = true) (hv : v.under 0 = true) (h : AH) :
    GoodAt P f args h v h := by
  obtain ⟨h1, h2⟩ := (run_good hm (good_noOrc P) n f args _ v h0 hr).body hb
  refine .inl ⟨h1, fun ι w rargs r hargs => ?_⟩
  refine (h2 (emb0 P.globals.size) w rargs (start_rel _ w) (unders_any hargs ha)).mono fun e w' ⟨ι', rv, he, k1, k2, k3⟩ => ?_
  have hkept : ∀ k, k < w.heap.size → w'.heap[k]? = w.heap[k]? := fun k hk => k3.kept k hk fun b c hb => by rw [start_get] at hb; cases hb
  exact ⟨ι, rv, he, under_any k1 hv, r.later hkept, k3.later fun b => start_get _ b⟩

/-- Some functions, run over the empty heap where nothing is handed in or back but plain values. -/
def orcPure (P : Program) (n : Nat) (fs : List Nat) : Orc := fun f =>
  if fs.contains f then some fun args h =>
    if AV.unders 0 args && ((P.funcs[f]?).bind (·.body)).isSome then match run (tbl P) n f args (start P.globals.size) with
      | some (v, _) => if v.under 0 then some (v, h) else none
      | none => none
    else none
  else none

theorem good_orcPure (hm : P.follows .mixedOrders = true) (n : Nat) (fs : List Nat) : GoodOrc P (orcPure P n fs) := by
  intro f s hs args h v h' hr
  unfold orcPure at hs
  split at hs
  · cases hs
    simp only at hr
    split at hr
    · rename_i ha
      rw [Bool.and_eq_true] at ha
      split at hr
      · rename_i v0 h0 hrun
        split at hr
        · rename_i hv
          cases hr
          exact good_pure hm ha.2 hrun ha.1 hv h
        · cases hr
      · cases hr
    · cases hr
  · cases hs

theorem acall_orc {orc : Orc} {tbl : Nat → Option CF} {f : Nat} {s : List AV → AH → Option (AV × AH)} (hs : orc f = some s) {args : List AV} {h : AH} {r : AV × AH} (hr : s args h = some r) : acall orc tbl f args h = some r :=
  acall_of (n := 1) (by rw [runO, hs]; exact hr)

theorem acall_pure {n : Nat} {fs : List Nat} {f : Nat} {args : List AV} {v : AV} {h : AH} (hf : fs.contains f = true) (hb : ((P.funcs[f]?).bind (·.body)).isSome = true) (ha : AV.unders 0 args = true) (hv : v.under 0 = true)
    (hr : (run (tbl P) n f args (start P.globals.size)).map Prod.fst = some v) : acall (orcPure P n fs) (tbl P) f args h = some (v, h) := by
  obtain ⟨⟨v0, h0⟩, h1, h2⟩ := Option.map_eq_some_iff.1 hr
  simp only at h2
  subst h2
  refine acall_orc (s := fun args h => if AV.unders 0 args && ((P.funcs[f]?).bind (·.body)).isSome then match run (tbl P) n f args (start P.globals.size) with
      | some (v, _) => if v.under 0 then some (v, h) else none
      | none => none
    else none) (by unfold orcPure; rw [if_pos hf]) ?_
  simp only [ha, hb, Bool.and_self, if_true, h1, hv]
end
end Go.Fs
