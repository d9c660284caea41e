/- Closed calls that read what lies in a first heap alone: what they come to over it, they come to over each heap that has grown out of it. -/
import Derived.Test.YtdehfehdaiappaaGreatDoorFsArgs
import Derived.Test.YtdehfehdaiappaaGreatDoorFsApart
namespace Go.Fs

def Tr.allK {α : Type} : (Nat → α → Bool) → Tr α → Bool
  | _, .leaf => true
  | p, .node v l r => (match v with | none => true | some x => p 0 x) && (Tr.allK (fun k x => p (2 * k + 1) x) l && Tr.allK (fun k x => p (2 * k + 2) x) r)
theorem Tr.allK_get {α : Type} : ∀ {t : Tr α} {p : Nat → α → Bool} {k : Nat} {x : α}, Tr.allK p t = true → t.get k = some x → p k x = true
  | .leaf, p, k, x, _, h => by simp [Tr.get] at h
  | .node v l r, p, k, x, ha, h => by
    simp only [Tr.allK, Bool.and_eq_true] at ha
    unfold Tr.get at h
    split at h
    · rename_i h0
      subst h0
      have := ha.1
      rw [h] at this
      exact this
    · split at h
      · rename_i h1
        have := Tr.allK_get ha.2.1 h
        rwa [show 2 * (k / 2) + 1 = k by omega] at this
      · have := Tr.allK_get ha.2.2 h
        rwa [show 2 * (k / 2 - 1) + 2 = k by omega] at this

/-- A block that is only read, and names no place from n on. -/
def Blk.plain (n : Nat) : Blk → Bool
  | .cells cs ro => ro && AV.unders n cs
  | .dead => true
  | _ => false

/-- A heap in which nothing may be written. -/
def heapOk (G : Nat) (h : AH) : Bool := Nat.ble G h.n && Tr.allK (fun b c => Nat.ble (b + 1) h.n && c.plain h.n) h.t

def Grown (h0 h : AH) : Prop := h0.n ≤ h.n ∧ ∀ b, b < h0.n → h.get b = h0.get b
theorem Grown.refl (h : AH) : Grown h h := ⟨Nat.le_refl _, fun _ _ => rfl⟩
theorem Grown.low {h0 h : AH} (g : Grown h0 h) (l : Nat) : Grown h0 (h.withLow l) := ⟨by simpa using g.1, fun b hb => by simpa using g.2 b hb⟩
theorem Grown.push {h0 h : AH} (g : Grown h0 h) (c : Blk) : Grown h0 (h.push c) := ⟨by have := g.1; simp; omega, fun b hb => by have := g.1; rw [Hp.get_push_ne _ _ _ (by omega)]; exact g.2 b hb⟩
theorem Grown.set {h0 h : AH} (g : Grown h0 h) {k : Nat} (hk : h0.n ≤ k) (c : Blk) : Grown h0 (h.set k c) := ⟨by simpa using g.1, fun b hb => by rw [Hp.get_set_ne _ _ _ _ (by omega)]; exact g.2 b hb⟩

theorem VRels.narrow {ι ι' : Emb} (h : ι.le ι') {a : List AV} (hu : AV.unders ι.n a = true) {v : List Value} (r : VRels ι' a v) : VRels ι a v := r.back h hu
theorem unders_at {n : Nat} : ∀ {cs : List AV} {i : Nat} {c : AV}, AV.unders n cs = true → cs[i]? = some c → c.under n = true
  | a :: as, 0, c, h, hc => by
    simp only [AV.unders, Bool.and_eq_true] at h
    simp only [List.getElem?_cons_zero, Option.some.injEq] at hc
    subst hc; exact h.1
  | a :: as, i + 1, c, h, hc => by
    simp only [AV.unders, Bool.and_eq_true] at h
    exact unders_at h.2 (by simpa using hc)

/-- The first heap, in the world of a later one. -/
theorem Rel.sub {G : Nat} {ι : Emb} {h h0 : AH} {w : World} (r : Rel G ι h w) (hok : heapOk G h0 = true) (hg : Grown h0 h) : Rel G ⟨h0.n, ι.blk, ι.sh, ι.size, ι.ty⟩ h0 w ∧ ∀ b c, h0.get b = some c → ¬ c.rw := by
  simp only [heapOk, Bool.and_eq_true] at hok
  have hG : G ≤ h0.n := Nat.le_of_ble_eq_true hok.1
  have hat : ∀ b c, h0.get b = some c → b < h0.n ∧ c.plain h0.n = true := fun b c hb => by
    have := Tr.allK_get hok.2 (show h0.t.get b = some c from hb)
    simp only [Bool.and_eq_true] at this
    exact ⟨Nat.le_of_ble_eq_true this.1, this.2⟩
  have hle : (⟨h0.n, ι.blk, ι.sh, ι.size, ι.ty⟩ : Emb).le ι := ⟨by rw [r.n]; exact hg.1, fun _ _ => rfl, fun _ _ => rfl, fun _ _ => rfl, fun _ _ => rfl⟩
  have hro : ∀ b c, h0.get b = some c → ¬ c.rw := fun b c hb hrw => by
    have := (hat b c hb).2
    cases c with
    | cells cs ro => simp only [Blk.plain, Bool.and_eq_true] at this; simp only [Blk.rw] at hrw; rw [hrw] at this; cases this.1
    | dead => exact hrw
    | map es => cases this
    | typ a b => cases this
    | iter a b => cases this
  refine ⟨⟨rfl, fun b c hb => (hat b c hb).1, hG, r.glob, fun b c hb => ?_, fun b b' c c' hb _ _ hrw _ => absurd hrw (hro b c hb)⟩, hro⟩
  obtain ⟨h1, h2⟩ := hat b c hb
  have hb' : h.get b = some c := by rw [hg.2 b h1, hb]
  have hB := r.brel b c hb'
  cases c with
  | cells cs ro =>
    simp only [Blk.plain, Bool.and_eq_true] at h2
    obtain ⟨arr, e, fr, g1, g2, g3, g4, g5⟩ := hB
    refine ⟨arr, e, fr, g1, g2, fun i c hc => ?_, fun hh => (by rw [hh] at h2; cases h2.1), g5⟩
    obtain ⟨v, q1, q2⟩ := g3 i c hc
    exact ⟨v, q1, q2.back hle (unders_at h2.2 hc)⟩
  | dead => trivial
  | map es => cases h2
  | typ a b => cases h2
  | iter a b => cases h2

section
variable {P : Program}

theorem good_over (hm : P.follows .mixedOrders = true) {orc : Orc} (ho : GoodOrc P orc) {n f : Nat} (hb : ((P.funcs[f]?).bind (·.body)).isSome = true) {args : List AV} {v : AV} {h0 h1 h : AH} (hok : heapOk P.globals.size h0 = true)
    (hr : runQ orc (tbl P) n f args h0 = some (v, h1)) (ha : AV.unders 0 args = true) (hv : v.under 0 = true) (hg : Grown h0 h) : GoodAt P f args h v h := by
  rw [runQ_eq] at hr
  obtain ⟨k1, k2⟩ := (run_good hm ho n f args _ v h1 hr).body hb
  refine .inl ⟨k1, fun ι w rargs r hargs => ?_⟩
  obtain ⟨r0, hro⟩ := r.sub hok hg
  refine (k2 _ w rargs r0 (unders_any hargs ha)).mono fun e w' ⟨ι', rv, he, q1, q2, q3⟩ => ?_
  have hkept : ∀ k, k < w.heap.size → w'.heap[k]? = w.heap[k]? := fun k hk => q3.kept k hk fun b c hb hrw => absurd hrw (hro b c hb)
  exact ⟨ι, rv, he, under_any q1 hv, r.later hkept, ⟨ι.le_refl, q3.os, q3.tape, q3.output, q3.size, fun k hk _ => hkept k hk, fun b c hb hc => .inr ⟨b, c, hb, hc, rfl⟩, Nat.le_refl _, Nat.le_refl _, fun _ _ _ => rfl⟩⟩

open Classical in
/-- A function told over the first heap, wherever a heap has grown out of it. -/
noncomputable def orcOver (P : Program) (orc : Orc) (h0 : AH) (n g : Nat) : Orc := fun f => match Nat.beq f g with
  | true => some fun args h => if Grown h0 h ∧ AV.unders 0 args = true then (match runQ orc (tbl P) n g args h0 with
    | some (v, _) => if v.under 0 = true then some (v, h) else none
    | none => none) else none
  | false => orc f

theorem good_orcOver (hm : P.follows .mixedOrders = true) {orc : Orc} (ho : GoodOrc P orc) {h0 : AH} (hok : heapOk P.globals.size h0 = true) {n g : Nat} (hb : ((P.funcs[g]?).bind (·.body)).isSome = true) : GoodOrc P (orcOver P orc h0 n g) := by
  intro f s hs args h v h' hv
  unfold orcOver at hs
  split at hs
  · rename_i hf
    cases hs
    obtain rfl := Nat.eq_of_beq_eq_true hf
    simp only at hv
    split at hv
    · rename_i hc
      split at hv
      · rename_i v0 h1 hrun
        split at hv
        · rename_i hv0
          cases hv
          exact good_over hm ho hb hok hrun hc.2 hv0 hc.1
        · cases hv
      · cases hv
    · cases hv
  · exact ho f s hs args h v h' hv

theorem acall_over {orc : Orc} {h0 h : AH} {n g : Nat} {args : List AV} {v : AV} (hr : (runQ orc (tbl P) n g args h0).map Prod.fst = some v) (ha : AV.unders 0 args = true) (hv : v.under 0 = true) (hg : Grown h0 h) :
    acall (orcOver P orc h0 n g) (tbl P) g args h = some (v, h) := by
  classical
  have e : orcOver P orc h0 n g g = some fun args h => if Grown h0 h ∧ AV.unders 0 args = true then (match runQ orc (tbl P) n g args h0 with
    | some (v, _) => if v.under 0 = true then some (v, h) else none
    | none => none) else none := by
    unfold orcOver
    rw [Nat.beq_refl]
  obtain ⟨⟨x, h1⟩, h2, h3⟩ := Option.map_eq_some_iff.1 hr
  simp only at h3
  subst h3
  refine acall_orc e ?_
  rw [if_pos ⟨hg, ha⟩, h2]
  simp only
  rw [if_pos hv]

theorem some_getD {α : Type} {o : Option α} {d : α} (h : o.isSome = true) : o = some (o.getD d) := by cases o <;> simp_all

/-- A closed law, by its symbolic walk, over variables that read as listed. -/
theorem law_closed (hm : P.follows .mixedOrders = true) {orc : Orc} (ho : GoodOrc P orc) {f k : Nat} (hb : ((P.funcs[f]?).bind (·.body)).isSome = true) {w : World} {h0 h' : AH} {x : Bool}
    {laid : List (String × DataW Unit)} (hl : absLaid P k laid (start P.globals.size) = some h0) (hw : laidMet P laid w) {g : Nat} (hg : g < P.globals.size) {m : Int} (hc : w.cell? ⟨g, 0, none⟩ = some (.int .i64 m))
    (hr : acall orc (tbl P) f [] (h0.set g (.cells [.int .i64 m] true)) = some (.bool x, h')) : Calls P f #[] w fun e w' => e = .returned (.bool x) ∧ Go.RowKit.Below w.heap.size w w' := by
  obtain ⟨ps0, hv, _⟩ := hw
  obtain ⟨ι, r, hro, hle⟩ := laid_rel hv hl (start_relW P.globals.size w) (fun b c hb => by rw [start_get] at hb; cases hb) (Emb.le_refl _)
  obtain ⟨r2, ro2⟩ := r.setVar hro hle hg hc (a := .int .i64 m) (by simp [VRel])
  have := calls_acall hm ho hb hr r2 (rargs := []) (by simp [VRels]) ro2
  simpa using this
end
end Go.Fs
