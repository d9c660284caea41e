/- Rows that are written over to the end of their spare room: the rows are opened anew, with that room. -/
import Derived.Test.YtdehfehdaiappaaGreatDoorFsPure
namespace Go.Fs

theorem BRel.back {ι ι' : Emb} {w w' : World} {b : Nat} {c : Blk} (hle : ι.le ι') (hbi : b < ι.n) (h1 : BRel ι w b c) (h2 : BRel ι' w' b c) : BRel ι w' b c := by
  have e1 := hle.blk b hbi
  have e2 := hle.sh b hbi
  have e3 := hle.size b hbi
  have e4 := hle.ty b hbi
  cases c with
  | cells cs ro =>
    obtain ⟨arr, e, fr, g1, g2, g3, g4⟩ := h2
    obtain ⟨arr0, e0, fr0, k1, k2, k3, k4⟩ := h1
    refine ⟨arr, e, fr, by rw [← e1]; exact g1, by rw [← e3]; exact g2, fun i c hc => ?_, fun hro => ⟨(g4.1 hro).1, by rw [← e2]; exact (g4.1 hro).2⟩, by rw [← e4]; exact g4.2⟩
    obtain ⟨x, g5, g6⟩ := g3 i c hc
    obtain ⟨x0, k5, k6⟩ := k3 i c hc
    exact ⟨x, by rw [← e2]; exact g5, g6.back hle k6.under⟩
  | map es =>
    obtain ⟨rs, cl, g1, g2⟩ := h2
    obtain ⟨rs0, cl0, k1, k2⟩ := h1
    refine ⟨rs, cl, by rw [← e1]; exact g1, ?_⟩
    clear g1 k1
    revert g2 k2
    generalize rs.toList = L
    generalize rs0.toList = L0
    induction es generalizing L L0 with
    | nil => intro g2 _; exact g2
    | cons p es ih =>
      obtain ⟨k, x⟩ := p
      intro g2 k2
      obtain ⟨r1, rs1, rfl, m1, m2, m3⟩ := g2
      obtain ⟨r2, rs2, rfl, n1, n2, n3⟩ := k2
      exact ⟨r1, rs1, rfl, m1.back hle n1.under, m2.back hle n2.under, ih _ _ m3 n3⟩
  | iter s p => exact ⟨by rw [← e1]; exact h2.1, by rw [← e2]; exact h2.2⟩
  | typ b' t => exact h1
  | dead => trivial

/-- The same world, told in other words. -/
theorem Rel.recast {G : Nat} {ι : Emb} {h h2 : AH} {w : World} (r : Rel G ι h w) (hn : h2.n = h.n)
    (hc : ∀ b c', h2.get b = some c' → ∃ c, h.get b = some c ∧ (c'.rw → c.rw) ∧ (c'.live → c.live) ∧ BRel ι w b c') : Rel G ι h2 w := by
  refine ⟨by rw [hn]; exact r.n, fun b c' hb => ?_, by rw [hn]; exact r.gn, r.glob, fun b c' hb => ?_, fun b b' c c' hb hb' hne hrw hlv => ?_⟩
  · obtain ⟨c, h1, _⟩ := hc b c' hb
    rw [hn]; exact r.dom b c h1
  · obtain ⟨c, _, _, _, h4⟩ := hc b c' hb
    exact h4
  · obtain ⟨d, h1, h2, _, _⟩ := hc b c hb
    obtain ⟨d', g1, _, g3, _⟩ := hc b' c' hb'
    exact r.sep b b' d d' h1 g1 hne (h2 hrw) (g3 hlv)

/-! ### Many blocks put in their places -/
def Hp.sets {α : Type} : List (Nat × α) → Hp α → Hp α
  | [], h => h
  | (b, c) :: l, h => (Hp.sets l h).set b c
theorem Hp.n_sets {α : Type} : ∀ (l : List (Nat × α)) (h : Hp α), (Hp.sets l h).n = h.n
  | [], _ => rfl
  | (b, c) :: l, h => by simp only [Hp.sets, Hp.n_set]; exact Hp.n_sets l h
theorem Hp.low_sets {α : Type} : ∀ (l : List (Nat × α)) (h : Hp α), (Hp.sets l h).low ≤ h.low ∧ ∀ p ∈ l, (Hp.sets l h).low ≤ p.1
  | [], _ => ⟨Nat.le_refl _, fun _ hp => by simp at hp⟩
  | (b, c) :: l, h => by
    have ih := Hp.low_sets l h
    simp only [Hp.sets, Hp.low_set]
    refine ⟨by omega, fun p hp => ?_⟩
    simp only [List.mem_cons] at hp
    rcases hp with rfl | hp
    · simp only; omega
    · have := ih.2 p hp; omega
theorem Hp.get_sets_not {α : Type} {k : Nat} : ∀ {l : List (Nat × α)} {h : Hp α}, (∀ p ∈ l, p.1 ≠ k) → (Hp.sets l h).get k = h.get k
  | [], _, _ => rfl
  | (b, c) :: l, h, hk => by
    simp only [Hp.sets]
    rw [Hp.get_set_ne _ _ _ _ (Ne.symm (hk (b, c) (by simp)))]
    exact Hp.get_sets_not fun p hp => hk p (by simp [hp])
theorem Hp.get_sets_mem {α : Type} {k : Nat} {x : α} : ∀ {l : List (Nat × α)} {h : Hp α}, (k, x) ∈ l → (l.map Prod.fst).Nodup → (Hp.sets l h).get k = some x
  | [], _, hm, _ => by simp at hm
  | (b, c) :: l, h, hm, hd => by
    simp only [List.map_cons, List.nodup_cons] at hd
    simp only [Hp.sets]
    simp only [List.mem_cons] at hm
    rcases hm with he | hm
    · cases he; exact Hp.get_set_self _ _ _
    · have : k ≠ b := fun e => hd.1 (by rw [← e]; exact List.mem_map.2 ⟨_, hm, rfl⟩)
      rw [Hp.get_set_ne _ _ _ _ this]
      exact Hp.get_sets_mem hm hd.2

/-! ### A row, opened -/

/-- The block of a row that is the whole of its block. -/
def apartRow (esz : Nat) (h : AH) : AV → Option (Option Nat)
  | .slice none _ (.exact 0) => some none
  | .slice (some (b, 0)) len (.exact c) => match h.get b with
    | some (.cells cs false) => if len ≤ c ∧ cs.length = c * esz ∧ c ≤ 1152921504606846976 then some (some b) else none
    | _ => none
  | .slice (some (b, 0)) len (.opn e) => match h.get b with
    | some (.cells cs false) => if e = esz ∧ cs.length = len * esz then some (some b) else none
    | _ => none
  | _ => none

/-- A row with all its room. -/
def OpenRow (esz : Nat) (h : AH) (ob : Option Nat) (x : AV) : Prop :=
  (ob = none ∧ x = .slice none 0 (.exact 0)) ∨
  ∃ b len c cs, ob = some b ∧ x = .slice (some (b, 0)) len (.exact c) ∧ h.get b = some (.cells cs false) ∧ cs.length = c * esz ∧ len ≤ c ∧ c ≤ maxLen

theorem BRel.opened {ι : Emb} {w : World} {b : Nat} {cs : List AV} (hb : BRel ι w b (.cells cs false)) (k : Nat) (hle : ι.sh b + cs.length + k ≤ ι.size b) :
    ∃ sp, sp.length = k ∧ BRel ι w b (.cells (cs ++ sp) false) := by
  obtain ⟨arr, e, fr, h1, h2, h3, h4, h5⟩ := hb
  have key : ∀ j : Nat, ∃ a : AV, ∀ v, arr[ι.sh b + cs.length + j]? = some v → VRel ι a v := fun j => by
    cases hv : arr[ι.sh b + cs.length + j]? with
    | none => exact ⟨AV.undef, fun v hv' => by cases hv'⟩
    | some v =>
      obtain ⟨a, ha⟩ := (h4 rfl).2 _ v (by omega) hv
      exact ⟨a, fun v' hv' => by cases hv'; exact ha ι⟩
  let f := fun j => Classical.choose (key j)
  have hf : ∀ j v, arr[ι.sh b + cs.length + j]? = some v → VRel ι (f j) v := fun j => Classical.choose_spec (key j)
  refine ⟨(List.range k).map f, by simp, arr, e, fr, h1, h2, fun i c hc => ?_, fun hro => ⟨(h4 hro).1, fun j v hj hv => (h4 hro).2 j v (by simp at hj; omega) hv⟩, h5⟩
  have hlt0 := (List.getElem?_eq_some_iff.1 hc).1
  simp only [List.length_append, List.length_map, List.length_range] at hlt0
  by_cases hi : i < cs.length
  · rw [List.getElem?_append_left hi] at hc
    exact h3 i c hc
  · rw [List.getElem?_append_right (by omega), List.getElem?_map, List.getElem?_range (by omega)] at hc
    simp only [Option.map_some, Option.some.injEq] at hc
    have hlt : ι.sh b + i < arr.size := by omega
    refine ⟨arr[ι.sh b + i], by simp [hlt], ?_⟩
    rw [← hc]
    refine hf _ _ ?_
    rw [show ι.sh b + cs.length + (i - cs.length) = ι.sh b + i by omega]
    simp [hlt]

section
variable {P : Program} {G : Nat} {ι : Emb} {h : AH} {w : World}

theorem row_open (r : Rel G ι h w) {esz : Nat} (hp : 0 < esz) {x : AV} {rx : Value} {ob : Option Nat} (hx : VRel ι x rx) (ha : apartRow esz h x = some ob) :
    ∃ x', VRel ι x' rx ∧ ((ob = none ∧ x' = .slice none 0 (.exact 0)) ∨ ∃ b len c cs cs', ob = some b ∧ x' = .slice (some (b, 0)) len (.exact c) ∧ h.get b = some (.cells cs false) ∧ BRel ι w b (.cells cs' false) ∧ cs'.length = c * esz ∧ len ≤ c ∧ c ≤ maxLen) := by
  have hmx : maxLen = 9223372036854775807 := rfl
  unfold apartRow at ha
  split at ha
  · cases ha
    have hx' := hx
    simp only [VRel] at hx'
    obtain ⟨h1, _, h3⟩ := hx'
    exact ⟨_, by rw [h3]; simp [VRel], .inl ⟨rfl, rfl⟩⟩
  · rename_i b len c
    split at ha
    · rename_i cs hb
      split at ha
      · rename_i hc
        cases ha
        exact ⟨_, hx, .inr ⟨b, len, c, cs, cs, rfl, rfl, hb, r.brel b _ hb, hc.2.1, hc.1, by omega⟩⟩
      · cases ha
    · cases ha
  · rename_i b len e
    split at ha
    · rename_i cs hb
      split at ha
      · rename_i hc
        cases ha
        obtain ⟨rfl, hl⟩ := hc
        simp only [VRel] at hx
        obtain ⟨hbn, _, o', c', rfl, hm, hcase⟩ := hx
        have hB := r.brel b _ hb
        rcases hcase with ⟨h1, h2, h3⟩ | ⟨rfl, rfl, h3⟩
        · have hmul : len * e ≤ c' * e := Nat.mul_le_mul_right _ h2
          obtain ⟨sp, g1, g2⟩ := hB.opened (c' * e - len * e) (by omega)
          refine ⟨.slice (some (b, 0)) len (.exact c'), ?_, .inr ⟨b, len, c', cs, cs ++ sp, rfl, rfl, hb, g2, by rw [List.length_append, g1, hl]; omega, h2, hm⟩⟩
          simp only [VRel]
          exact ⟨hbn, h2, _, rfl, fun _ => by rw [h1]⟩
        · refine ⟨.slice (some (b, 0)) 0 (.exact 0), ?_, .inr ⟨b, 0, 0, cs, cs, rfl, rfl, hb, hB, by omega, Nat.le_refl _, by omega⟩⟩
          simp only [VRel]
          exact ⟨hbn, Nat.le_refl _, _, rfl, fun hh => by omega⟩
      · cases ha
    · cases ha
  · cases ha

theorem rows_open (r : Rel G ι h w) {esz : Nat} (hp : 0 < esz) : ∀ {L : List AV} {rs : List Value} {obs : List (Option Nat)}, VRels ι L rs → L.mapM (apartRow esz h) = some obs →
    ∃ (L' : List AV) (U : List (Nat × Blk)), VRels ι L' rs ∧ L'.length = obs.length ∧ U.map Prod.fst = obs.filterMap id ∧ (∀ p ∈ U, ∃ cs cs', h.get p.1 = some (.cells cs false) ∧ p.2 = .cells cs' false ∧ BRel ι w p.1 p.2) ∧
      ∀ hx : AH, (∀ p ∈ U, hx.get p.1 = some p.2) → ∀ (i : Nat) (x : AV), L'[i]? = some x → ∃ ob, obs[i]? = some ob ∧ OpenRow esz hx ob x
  | [], rs, obs, hr, hm => by
    simp only [List.mapM_nil, Option.pure_def, Option.some.injEq] at hm
    subst hm
    exact ⟨[], [], hr, rfl, rfl, fun p hp => by simp at hp, fun hx _ i x hi => by simp at hi⟩
  | x :: L, rs, obs, hr, hm => by
    simp only [List.mapM_cons, Option.bind_eq_bind, Option.bind_eq_some_iff, Option.pure_def, Option.some.injEq] at hm
    obtain ⟨ob, h1, obs', h2, rfl⟩ := hm
    simp only [VRels] at hr
    obtain ⟨rx, rs', rfl, g1, g2⟩ := hr
    obtain ⟨L', U, k1, k2, k3, k4, k5⟩ := rows_open r hp g2 h2
    obtain ⟨x', q1, q2⟩ := row_open r hp g1 h1
    rcases q2 with ⟨rfl, rfl⟩ | ⟨b, len, c, cs, cs', rfl, rfl, m1, m2, m3, m4, m5⟩
    · refine ⟨_ :: L', U, by simp only [VRels]; exact ⟨_, _, rfl, q1, k1⟩, by simp [k2], by simpa using k3, k4, fun hx hU i x hi => ?_⟩
      cases i with
      | zero => simp only [List.getElem?_cons_zero, Option.some.injEq] at hi; subst hi; exact ⟨none, rfl, .inl ⟨rfl, rfl⟩⟩
      | succ i => simp only [List.getElem?_cons_succ] at hi ⊢; exact k5 hx hU i x hi
    · refine ⟨_ :: L', (b, .cells cs' false) :: U, by simp only [VRels]; exact ⟨_, _, rfl, q1, k1⟩, by simp [k2], by simpa using k3, fun p hp => ?_, fun hx hU i x hi => ?_⟩
      · simp only [List.mem_cons] at hp
        rcases hp with rfl | hp
        · exact ⟨cs, cs', m1, rfl, m2⟩
        · exact k4 p hp
      · cases i with
        | zero =>
          simp only [List.getElem?_cons_zero, Option.some.injEq] at hi
          subst hi
          exact ⟨some b, rfl, .inr ⟨b, len, c, cs', rfl, rfl, hU (b, .cells cs' false) (by simp), m3, m4, m5⟩⟩
        | succ i => simp only [List.getElem?_cons_succ] at hi ⊢; exact k5 hx (fun p hp => hU p (by simp [hp])) i x hi

/-- Rows that lie apart: each is written over, and nothing is known of it behind that. -/
def apartOrc (esz : Nat) : List AV → AH → Option (AV × AH)
  | [.slice (some (bL, 0)) m _], h => match h.get bL with
    | some (.cells L _) => if L.length = m ∧ m ≤ 1000000 then (match L.mapM (apartRow esz h) with
      | some obs => if (bL :: obs.filterMap id).Nodup then some (.bool true, Hp.sets ((bL :: obs.filterMap id).map fun b => (b, Blk.dead)) h) else none
      | none => none) else none
    | _ => none
  | _, _ => none

/-- What the function does with rows whose room is known. -/
def ApartRun (P : Program) (esz f : Nat) : Prop :=
  ∀ (h : AH) (bL m : Nat) (cap : Cap) (ro : Bool) (L : List AV) (obs : List (Option Nat)), h.get bL = some (.cells L ro) → bL < h.n → L.length = m → m ≤ 1000000 → obs.length = m →
    (∀ (i : Nat) (x : AV), L[i]? = some x → ∃ ob, obs[i]? = some ob ∧ OpenRow esz h ob x) → (∀ b, some b ∈ obs → b < h.n) → (obs.filterMap id).Nodup → bL ∉ obs.filterMap id →
    ∃ h1, acall noOrc (tbl P) f [.slice (some (bL, 0)) m cap] h = some (.bool true, h1) ∧ ∀ b, b < h.n → b ∉ obs.filterMap id → h1.get b = h.get b

theorem good_apart (hm : P.follows .mixedOrders = true) {esz f : Nat} (hp : 0 < esz) (hrun : ApartRun P esz f) (hb : ((P.funcs[f]?).bind (·.body)).isSome = true) {args : List AV} {h : AH} {v : AV} {h' : AH} (hs : apartOrc esz args h = some (v, h')) : GoodAt P f args h v h' := by
  unfold apartOrc at hs
  split at hs
  · rename_i bL m cap
    split at hs
    · rename_i L ro hL
      split at hs
      · rename_i hlen
        obtain ⟨hlen, hmm⟩ := hlen
        split at hs
        · rename_i obs hobs
          split at hs
          · rename_i hnd
            cases hs
            have hfn : ∃ fn b, P.funcs[f]? = some fn ∧ fn.body = some b ∧ (fn.name == "runtime.NumGoroutine") = false := by
              obtain ⟨h1, hr1, _⟩ := hrun ((start 0).push (.cells [] true)) (start 0).n 0 (.exact 0) true [] [] (Hp.get_push_self _ _) (by simp) rfl (by omega) rfl (fun i x hi => by simp at hi) (fun b hb => by simp at hb) (by simp) (by simp)
              obtain ⟨n, hn⟩ := acall_ex hr1
              exact ((run_good hm (good_noOrc P) n f _ _ _ _ hn).body hb).1
            refine .inl ⟨hfn, fun ι w rargs r hargs => ?_⟩
            obtain ⟨arrL, eL, frL, z1, z2, z3, z4⟩ := r.brel bL _ hL
            have hbL := r.dom bL _ hL
            -- the rows' real values
            have hreal : ∃ rs : List Value, VRels ι L rs ∧ ∀ (i : Nat) (v : Value), rs[i]? = some v → arrL[ι.sh bL + i]? = some v := by
              refine ⟨(arrL.toList.drop (ι.sh bL)).take L.length, VRels.mk ?_ fun i c hc => ?_, fun i v hi => ?_⟩
              · rw [List.length_take, List.length_drop]
                rcases Nat.eq_zero_or_pos L.length with h0 | h0
                · omega
                · obtain ⟨v, g1, _⟩ := z3 (L.length - 1) _ (List.getElem?_eq_getElem (by omega))
                  have := (Array.getElem?_eq_some_iff.1 g1).1
                  simp; omega
              · obtain ⟨v, g1, g2⟩ := z3 i c hc
                have hi := (List.getElem?_eq_some_iff.1 hc).1
                exact ⟨v, by rw [List.getElem?_take_of_lt hi, List.getElem?_drop, Array.getElem?_toList]; exact g1, g2⟩
              · have hlt := (List.getElem?_eq_some_iff.1 hi).1
                rw [List.length_take] at hlt
                rw [List.getElem?_take_of_lt (by omega), List.getElem?_drop, Array.getElem?_toList] at hi
                exact hi
            obtain ⟨rs, hrs, hat⟩ := hreal
            obtain ⟨L', U, k1, k2, k3, k4, k5⟩ := rows_open r hp hrs hobs
            have hndU : (((bL, Blk.cells L' true) :: U).map Prod.fst).Nodup := by simpa [k3] using hnd
            have hh2n : (Hp.sets ((bL, .cells L' true) :: U) h).n = h.n := Hp.n_sets _ _
            have hget : ∀ p ∈ (bL, Blk.cells L' true) :: U, (Hp.sets ((bL, Blk.cells L' true) :: U) h).get p.1 = some p.2 := fun p hp => Hp.get_sets_mem hp hndU
            have hnot : ∀ b, b ∉ bL :: obs.filterMap id → (Hp.sets ((bL, Blk.cells L' true) :: U) h).get b = h.get b := fun b hb => Hp.get_sets_not fun p hp he => by
              refine hb ?_
              have h9 : p.1 ∈ ((bL, Blk.cells L' true) :: U).map Prod.fst := List.mem_map.2 ⟨p, hp, rfl⟩
              rw [List.map_cons, k3] at h9
              rw [← he]; exact h9
            generalize hH2 : Hp.sets ((bL, Blk.cells L' true) :: U) h = h2 at *
            have hll : L'.length = L.length := by
              rw [← k1.length, hrs.length]
            -- the same world, told with the rows' room
            have hcast : ∀ b c', h2.get b = some c' → ∃ c, h.get b = some c ∧ (c'.rw → c.rw) ∧ (c'.live → c.live) ∧ BRel ι w b c' := fun b c' hb' => by
              by_cases hbm : b ∈ bL :: obs.filterMap id
              · rw [← k3] at hbm
                have : b ∈ ((bL, Blk.cells L' true) :: U).map Prod.fst := hbm
                obtain ⟨p, hp1, rfl⟩ := List.mem_map.1 this
                have := hget p hp1
                rw [this] at hb'
                cases hb'
                simp only [List.mem_cons] at hp1
                rcases hp1 with rfl | hp1
                · have hB : BRel ι w bL (.cells L' true) := ⟨arrL, eL, frL, z1, z2, fun i c hc => by
                    obtain ⟨v, g1, g2⟩ := k1.get i c hc
                    exact ⟨v, hat i v g1, g2⟩, (fun hh => by cases hh), z4.2⟩
                  exact ⟨_, hL, (fun hh : true = false => by cases hh), (fun _ => trivial), hB⟩
                · obtain ⟨cs, cs', g1, g2, g3⟩ := k4 p hp1
                  exact ⟨_, g1, (fun _ => rfl), (fun _ => trivial), g3⟩
              · rw [hnot b hbm] at hb'
                exact ⟨c', hb', id, id, r.brel b c' hb'⟩
            have r2 : Rel P.globals.size ι h2 w := r.recast hh2n hcast
            have hndo : (obs.filterMap id).Nodup ∧ bL ∉ obs.filterMap id := by
              rw [List.nodup_cons] at hnd; exact ⟨hnd.2, hnd.1⟩
            obtain ⟨h3, hr3, hkeep⟩ := hrun h2 bL m cap true L' obs (hget (bL, .cells L' true) (by simp)) (by rw [hh2n]; exact hbL) (by omega) hmm (by rw [← k2, hll]; exact hlen)
              (fun i x hi => k5 h2 (fun p hp => hget p (by simp [hp])) i x hi) (fun b hb => by
                have : b ∈ obs.filterMap id := List.mem_filterMap.2 ⟨some b, hb, rfl⟩
                rw [← k3] at this
                obtain ⟨p, hp1, rfl⟩ := List.mem_map.1 this
                obtain ⟨cs, cs', g1, _⟩ := k4 p hp1
                rw [hh2n]; exact r.dom _ _ g1) hndo.1 hndo.2
            obtain ⟨n, hn⟩ := acall_ex hr3
            refine (((run_good hm (good_noOrc P) n f _ _ _ _ hn).body hb).2 ι w rargs r2 hargs).mono fun e w' ⟨ι3, rv, he, q1, q2, q3⟩ => ?_
            have hdead : ∀ b c, (Hp.sets ((bL :: obs.filterMap id).map fun b => (b, Blk.dead)) h).get b = some c → (c = .dead ∧ ∃ d, h.get b = some d) ∨ (b ∉ bL :: obs.filterMap id ∧ h.get b = some c) := fun b c hb' => by
              by_cases hbm : b ∈ bL :: obs.filterMap id
              · left
                have := Hp.get_sets_mem (h := h) (k := b) (x := Blk.dead) (l := (bL :: obs.filterMap id).map fun b => (b, Blk.dead)) (List.mem_map.2 ⟨b, hbm, rfl⟩) (by rw [List.map_map, show (Prod.fst ∘ fun (b : Nat) => (b, Blk.dead)) = id from rfl, List.map_id]; exact hnd)
                rw [this] at hb'
                cases hb'
                refine ⟨rfl, ?_⟩
                rw [← k3] at hbm
                have hbm' : b ∈ ((bL, Blk.cells L' true) :: U).map Prod.fst := hbm
                obtain ⟨p, hp1, rfl⟩ := List.mem_map.1 hbm'
                obtain ⟨c, g1, _⟩ := hcast _ _ (hget p hp1)
                exact ⟨c, g1⟩
              · right
                rw [Hp.get_sets_not (fun p hp he => by
                  obtain ⟨b', hb1, rfl⟩ := List.mem_map.1 hp
                  exact hbm (he ▸ hb1))] at hb'
                exact ⟨hbm, hb'⟩
            refine ⟨ι, rv, he, ?_, ⟨by rw [Hp.n_sets]; exact r.n, fun b c hb' => ?_, by rw [Hp.n_sets]; exact r.gn, r.glob, fun b c hb' => ?_, fun b b' c c' hb1 hb2 hne hrw hlv => ?_⟩,
              ⟨ι.le_refl, q3.os, q3.tape, q3.output, q3.size, fun k hk hn' => q3.kept k hk fun b c hb' hrw => ?_, fun b c hb' hrw => ?_, by rw [Hp.n_sets]; exact Nat.le_refl _, (Hp.low_sets _ _).1, fun b hb1 hb2 => ?_⟩⟩
            · simp only [VRel] at q1 ⊢; exact q1
            · rw [Hp.n_sets]
              rcases hdead b c hb' with ⟨_, d, hd⟩ | ⟨_, hd⟩
              · exact r.dom b d hd
              · exact r.dom b c hd
            · rcases hdead b c hb' with ⟨rfl, _⟩ | ⟨hbm, hd⟩
              · trivial
              · have hbn := r.dom b c hd
                have h3b : h3.get b = some c := by
                  rw [hkeep b (by rw [hh2n]; exact hbn) fun hh => hbm (by simp [hh]), hnot b hbm, hd]
                exact BRel.back q3.le (by rw [r.n]; exact hbn) (r.brel b c hd) (q2.brel b c h3b)
            · rcases hdead b c hb1 with ⟨rfl, _⟩ | ⟨_, hd⟩
              · exact hrw.elim
              · rcases hdead b' c' hb2 with ⟨rfl, _⟩ | ⟨_, hd'⟩
                · exact hlv.elim
                · exact r.sep b b' c c' hd hd' hne hrw hlv
            · obtain ⟨d, g1, g2, _⟩ := hcast b c hb'
              exact hn' b d g1 (g2 hrw)
            · rcases hdead b c hb' with ⟨rfl, _⟩ | ⟨_, hd⟩
              · exact hrw.elim
              · exact .inr ⟨b, c, hd, hrw, rfl⟩
            · refine Hp.get_sets_not fun p hp he => ?_
              have := (Hp.low_sets ((bL :: obs.filterMap id).map fun b => (b, Blk.dead)) h).2 p hp
              omega
          · cases hs
        · cases hs
      · cases hs
    · cases hs
  · cases hs
end
end Go.Fs
