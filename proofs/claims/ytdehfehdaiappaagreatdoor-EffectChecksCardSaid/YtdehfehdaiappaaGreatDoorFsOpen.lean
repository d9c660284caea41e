/- What a function is handed, as it reads, laid out as read-only blocks of an abstract heap. -/
import Derived.Test.YtdehfehdaiappaaGreatDoorFsRow
import GoSem.ClaimChange
namespace Go.Fs
open Go.RowKit

section
variable {H : Type} (P : Program) (opq : TypeId → Bool)

def absL (f : DataW H → AH → Option (List AV × AH)) : List (DataW H) → AH → Option (List AV × AH)
  | [], h => some ([], h)
  | d :: ds, h => (f d h).bind fun (a, h1) => (absL f ds h1).map fun (b, h2) => (a ++ b, h2)

def absFs (f : TypeId → DataW H → AH → Option (List AV × AH)) : List Field → List (DataW H) → AH → Option (List AV × AH)
  | [], [], h => some ([], h)
  | fd :: fs, d :: ds, h => (f fd.type d h).bind fun (a, h1) => (absFs f fs ds h1).map fun (b, h2) => (a ++ b, h2)
  | _, _, _ => none

/-- Fields that lie one behind the other. -/
def packed : Nat → List Field → Option Nat
  | o, [] => some o
  | o, fd :: fs => if fd.offset = o then packed (o + P.cellsOf fd.type) fs else none

/-- The cells of what reads so. -/
def absD : Nat → TypeId → DataW H → AH → Option (List AV × AH)
  | 0, _, _, _ => none
  | f + 1, t, d, h => match P.underlying t, d with
    | some .bool, .lit (.bool b) => some ([.bool b], h)
    | some (.int k), .lit (.int k' n) => if k' = k then some ([.int k n], h) else none
    | some .string, .lit (.string bs) => some ([.str bs], h)
    | some (.pointer _), .nil => some ([.ptr none], h)
    | some (.pointer e), .ptr x => if opq t then some ([.junk true], h) else if 0 < P.cellsOf e then
        (absD f e x h).map fun (cs, h') => ([.ptr (some (h'.n, 0))], h'.push (.cells cs true)) else none
    | some (.slice _), .nil => some ([.slice none 0 (.exact 0)], h)
    | some (.slice e), .slice elems spare => if opq t then some ([.junk true], h) else if elems.length + spare.length = 0 then some ([.slice (some (h.n, 0)) 0 (.exact 0)], h.push .dead) else if 0 < P.cellsOf e then
        (absL (absD f e) (elems ++ spare) h).map fun (cs, h') => ([.slice (some (h'.n, 0)) elems.length (.exact (elems.length + spare.length))], h'.push (.cells cs true)) else none
    | some (.struct fs), .agg parts => if packed P 0 fs.toList = some (P.cellsOf t) then absFs (absD f) fs.toList parts h else none
    | some (.array _ e), .agg parts => if parts.length * P.cellsOf e = P.cellsOf t then absL (absD f e) parts h else none
    | some (.interface _), .nil => some ([.nilIface], h)
    | some (.interface _), .iface _ _ => some ([.junk true], h)
    | some (.func ..), .nil => some ([.nilFunc], h)
    | some (.map _ _), .nil => some ([.map none], h)
    | _, _ => none
end

/-- So lie the cells from an address on. -/
def rowAt (w : World) (a : Addr) (vs : List Value) : Prop := ∀ i v, vs[i]? = some v → w.cell? (a.add i) = some v

theorem add_add (a : Addr) (x y : Nat) : (a.add x).add y = a.add (x + y) := by
  unfold Addr.add
  by_cases hx : x = 0
  · subst hx; simp
  · by_cases hy : y = 0
    · subst hy; simp [hx]
    · have : ¬ (x + y = 0) := by omega
      simp only [hx, hy, if_false]
      simp [Nat.add_assoc, hx]

theorem rowAt_append {w : World} {a : Addr} {x y : List Value} (hx : rowAt w a x) (hy : rowAt w (a.add x.length) y) : rowAt w a (x ++ y) := by
  intro i v hi
  by_cases hlt : i < x.length
  · rw [List.getElem?_append_left hlt] at hi; exact hx i v hi
  · rw [List.getElem?_append_right (by omega)] at hi
    have := hy (i - x.length) v hi
    rw [add_add, show x.length + (i - x.length) = i by omega] at this
    exact this

theorem cells_row {w : World} {base : Nat} {a : Addr} {n : Nat} {l : List Value} (h : w.cells? base a n = some l) : l.length = n ∧ rowAt w a l := by
  unfold World.cells? at h
  split at h
  · obtain ⟨h1, h2⟩ := mapM_at _ _ _ h
    refine ⟨by simpa using h1, fun i v hi => ?_⟩
    have hlt : i < n := by have := (List.getElem?_eq_some_iff.1 hi).1; simp at h1; omega
    exact h2 i i v (by simp [hlt]) hi
  · cases h

theorem row_block {w : World} {a : Addr} {vs : List Value} (h : rowAt w a vs) (hne : 0 < vs.length) : a.spot = none ∧ ∃ arr e fr, w.heap[a.block]? = some (.cells arr e fr) ∧ ∀ i v, vs[i]? = some v → arr[a.off + i]? = some v := by
  have h0 := h 0 vs[0] (by simp [hne])
  have hz : a.add 0 = a := by simp [Addr.add]
  rw [hz] at h0
  unfold World.cell? at h0
  split at h0
  · rename_i arr e fr hb
    split at h0
    · cases h0
    · rename_i hs
      refine ⟨by simpa using hs, arr, e, fr, hb, fun i v hi => ?_⟩
      have h1 := h i v hi
      unfold World.cell? at h1
      have hblk : (a.add i).block = a.block := by unfold Addr.add; split <;> rfl
      rw [hblk, hb] at h1
      simp only at h1
      split at h1
      · cases h1
      · have : (a.add i).off = a.off + i := by unfold Addr.add; split <;> simp [*]
        rw [this] at h1; exact h1
  · cases h0

section
variable {P : Program} {opq : TypeId → Bool} {H : Type} {enc : TypeId × Value → H} {w : World} {G : Nat} {held : Bool}

/-- Nothing may be written. -/
def RO (h : AH) : Prop := ∀ b c, h.get b = some c → ¬ c.rw

theorem RO.push {h : AH} (r : RO h) {c : Blk} (hc : ¬ c.rw) : RO (h.push c) := by
  intro b d hb
  rw [Hp.get_push] at hb
  split at hb
  · cases hb; exact hc
  · exact r b d hb

theorem Rel.pushRo {ι : Emb} {h : AH} (r : Rel G ι h w) (hro : RO h) (c : Blk) (hc : ¬ c.rw) (B s z t : Nat) (hb : BRel (ι.add B s z t) w h.n c) : Rel G (ι.add B s z t) (h.push c) w := by
  have hn := r.n
  have hadd : ∀ b, b ≠ h.n → (ι.add B s z t).blk b = ι.blk b := fun b hb => by simp [Emb.add, hn, hb]
  refine ⟨by simp [hn], fun b d hd => ?_, Nat.le_succ_of_le r.gn, fun g hg => ?_, fun b d hd => ?_, fun b b' d d' hd _ _ hrw _ => ?_⟩
  · rw [Hp.get_push] at hd
    split at hd
    · rename_i he; simp [he]
    · have := r.dom b d hd; simp; omega
  · have := r.gn
    have h1 := r.glob g hg
    simp [Emb.add, show g ≠ ι.n by omega, h1]
  · rw [Hp.get_push] at hd
    split at hd
    · rename_i he; cases hd; rw [he]; exact hb
    · have hbn := r.dom b d hd
      exact (r.brel b d hd).mono (by omega) (ι.le_add _ _ _ _) fun _ => rfl
  · exact absurd hrw ((hro.push hc) b d hd)

theorem pushRow {ι : Emb} {h : AH} (r : Rel G ι h w) (hro : RO h) {a : Addr} {vs : List Value} {cs : List AV} (hrow : rowAt w a vs) (hne : 0 < vs.length) (hv : VRels ι cs vs) :
    ∃ ι', Rel G ι' (h.push (.cells cs true)) w ∧ ι.le ι' ∧ RO (h.push (.cells cs true)) ∧ ι'.blk h.n = a.block ∧ ι'.sh h.n = a.off ∧ h.n < ι'.n ∧ a = ⟨a.block, a.off, none⟩ := by
  obtain ⟨hs, arr, e, fr, hb, hcell⟩ := row_block hrow hne
  have hn := r.n
  refine ⟨ι.add a.block a.off arr.size e, Rel.pushRo r hro _ (by simp [Blk.rw]) _ _ _ _ ?_, ι.le_add _ _ _ _, hro.push (by simp [Blk.rw]), by rw [← hn]; simp, by rw [← hn]; simp, by simp [hn], ?_⟩
  · refine ⟨arr, e, fr, by rw [← hn]; simpa using hb, by rw [← hn]; simp, fun i c hc => ?_, (fun h => by cases h), by rw [← hn]; simp⟩
    obtain ⟨v, h1, h2⟩ := hv.get i c hc
    exact ⟨v, by rw [← hn]; simpa using hcell i v h1, h2.mono (ι.le_add _ _ _ _)⟩
  · cases a; simp_all

theorem absL_append (f : DataW H → AH → Option (List AV × AH)) : ∀ (x y : List (DataW H)) (h : AH) (r : List AV × AH), absL f (x ++ y) h = some r → ∃ a h1 b, absL f x h = some (a, h1) ∧ absL f y h1 = some (b, r.2) ∧ r.1 = a ++ b
  | [], y, h, r, hr => ⟨[], h, r.1, rfl, hr, rfl⟩
  | d :: x, y, h, r, hr => by
    simp only [List.cons_append, absL, Option.bind_eq_some_iff, Option.map_eq_some_iff] at hr
    obtain ⟨⟨a, h1⟩, h2, ⟨b, h3⟩, h4, rfl⟩ := hr
    obtain ⟨a', h1', b', g1, g2, g3⟩ := absL_append f x y h1 (b, h3) h4
    exact ⟨a ++ a', h1', b', by simp [absL, h2, g1], g2, by rw [List.append_assoc, ← g3]⟩

/-- What is told of one type: how its cells relate. -/
def LaysD (enc : TypeId × Value → H) (P : Program) (opq : TypeId → Bool) (w : World) (G : Nat) (held : Bool) (f f' : Nat) (t : TypeId) : Prop :=
  ∀ (cs : List Value) (d : DataW H) (ps : List MemPlace), DataW.trod enc P w 0 (fun _ => true) held f t cs = some (d, ps) →
    ∀ (ι : Emb) (h : AH) (as : List AV) (h' : AH), Rel G ι h w → RO h → absD P opq f' t d h = some (as, h') → ∃ ι', Rel G ι' h' w ∧ ι.le ι' ∧ RO h' ∧ VRels ι' as cs

theorem tells_row {f f' : Nat} {e : TypeId} (T : LaysD enc P opq w G held f f' e) (a : Addr) (n : Nat) : ∀ (m s : Nat) (xs : List (DataW H × List MemPlace)),
    (List.range' s m).mapM (fun i => (w.cells? 0 (a.add (i * n)) n).bind (DataW.trod enc P w 0 (fun _ => true) held f e)) = some xs →
    ∀ (ι : Emb) (h : AH) (as : List AV) (h' : AH), Rel G ι h w → RO h → absL (absD P opq f' e) (xs.map (·.1)) h = some (as, h') →
      ∃ ι' vs, Rel G ι' h' w ∧ ι.le ι' ∧ RO h' ∧ VRels ι' as vs ∧ rowAt w (a.add (s * n)) vs ∧ vs.length = m * n ∧ xs.length = m
  | 0, s, xs, hxs, ι, h, as, h', r, hro, hl => by
    simp at hxs
    subst hxs
    simp only [List.map_nil, absL, Option.some.injEq, Prod.mk.injEq] at hl
    obtain ⟨rfl, rfl⟩ := hl
    exact ⟨ι, [], r, ι.le_refl, hro, by simp [VRels], fun i v hi => by simp at hi, by simp, rfl⟩
  | m + 1, s, xs, hxs, ι, h, as, h', r, hro, hl => by
    rw [List.range'_succ, List.mapM_cons] at hxs
    cases hx : (w.cells? 0 (a.add (s * n)) n).bind (DataW.trod enc P w 0 (fun _ => true) held f e) with
    | none => simp [hx] at hxs
    | some x =>
      cases hys : (List.range' (s + 1) m).mapM (fun i => (w.cells? 0 (a.add (i * n)) n).bind (DataW.trod enc P w 0 (fun _ => true) held f e)) with
      | none => simp [hx, hys] at hxs
      | some ys =>
        simp [hx, hys] at hxs
        subst hxs
        simp only [List.map_cons, absL, Option.bind_eq_some_iff, Option.map_eq_some_iff] at hl
        obtain ⟨⟨a1, h1⟩, g1, ⟨b1, h2⟩, g2, he⟩ := hl
        cases he
        obtain ⟨cs, hc1, hc2⟩ := Option.bind_eq_some_iff.1 hx
        obtain ⟨d, ps⟩ := x
        obtain ⟨ι1, r1, l1, ro1, v1⟩ := T cs d ps hc2 ι h a1 h1 r hro g1
        obtain ⟨ι2, vs, r2, l2, ro2, v2, row2, len2, lx⟩ := tells_row T a n m (s + 1) ys hys ι1 h1 b1 h2 r1 ro1 g2
        obtain ⟨hlen, hrow⟩ := cells_row hc1
        refine ⟨ι2, cs ++ vs, r2, l1.trans l2, ro2, (v1.mono l2).append v2, rowAt_append hrow ?_, ?_, by simp [lx]⟩
        · rw [add_add, hlen, show s * n + n = (s + 1) * n by rw [Nat.succ_mul]]; exact row2
        · rw [List.length_append, hlen, len2, Nat.succ_mul, Nat.add_comm]

theorem tells_list {f f' : Nat} {e : TypeId} (T : LaysD enc P opq w G held f f' e) (n : Nat) (cs : List Value) : ∀ (m s : Nat) (xs : List (DataW H × List MemPlace)),
    (List.range' s m).mapM (fun i => DataW.trod enc P w 0 (fun _ => true) held f e ((cs.drop (i * n)).take n)) = some xs → (s + m) * n ≤ cs.length →
    ∀ (ι : Emb) (h : AH) (as : List AV) (h' : AH), Rel G ι h w → RO h → absL (absD P opq f' e) (xs.map (·.1)) h = some (as, h') →
      ∃ ι', Rel G ι' h' w ∧ ι.le ι' ∧ RO h' ∧ VRels ι' as ((cs.drop (s * n)).take (m * n))
  | 0, s, xs, hxs, _, ι, h, as, h', r, hro, hl => by
    simp at hxs
    subst hxs
    simp only [List.map_nil, absL, Option.some.injEq, Prod.mk.injEq] at hl
    obtain ⟨rfl, rfl⟩ := hl
    exact ⟨ι, r, ι.le_refl, hro, by simp [VRels]⟩
  | m + 1, s, xs, hxs, hle, ι, h, as, h', r, hro, hl => by
    rw [List.range'_succ, List.mapM_cons] at hxs
    cases hx : DataW.trod enc P w 0 (fun _ => true) held f e ((cs.drop (s * n)).take n) with
    | none => simp [hx] at hxs
    | some x =>
      cases hys : (List.range' (s + 1) m).mapM (fun i => DataW.trod enc P w 0 (fun _ => true) held f e ((cs.drop (i * n)).take n)) with
      | none => simp [hx, hys] at hxs
      | some ys =>
        simp [hx, hys] at hxs
        subst hxs
        simp only [List.map_cons, absL, Option.bind_eq_some_iff, Option.map_eq_some_iff] at hl
        obtain ⟨⟨a1, h1⟩, g1, ⟨b1, h2⟩, g2, he⟩ := hl
        cases he
        obtain ⟨d, ps⟩ := x
        obtain ⟨ι1, r1, l1, ro1, v1⟩ := T _ d ps hx ι h a1 h1 r hro g1
        obtain ⟨ι2, r2, l2, ro2, v2⟩ := tells_list T n cs m (s + 1) ys hys (by rw [show s + 1 + m = s + (m + 1) by omega]; exact hle) ι1 h1 b1 h2 r1 ro1 g2
        refine ⟨ι2, r2, l1.trans l2, ro2, ?_⟩
        have := (v1.mono l2).append v2
        have e1 : (cs.drop (s * n)).take ((m + 1) * n) = (cs.drop (s * n)).take n ++ (cs.drop ((s + 1) * n)).take (m * n) := by
          rw [Nat.succ_mul, Nat.add_comm (m * n) n, List.take_add, List.drop_drop, show s * n + n = (s + 1) * n by rw [Nat.succ_mul]]
        rw [e1]; exact this

theorem tells_fields {f f' : Nat} (T : ∀ t, LaysD enc P opq w G held f f' t) (cs : List Value) : ∀ (fs : List Field) (o z : Nat) (xs : List (DataW H × List MemPlace)),
    fs.mapM (fun fd => DataW.trod enc P w 0 (fun _ => true) held f fd.type ((cs.drop fd.offset).take (P.cellsOf fd.type))) = some xs → packed P o fs = some z →
    ∀ (ι : Emb) (h : AH) (as : List AV) (h' : AH), Rel G ι h w → RO h → absFs (absD P opq f') fs (xs.map (·.1)) h = some (as, h') →
      ∃ ι', Rel G ι' h' w ∧ ι.le ι' ∧ RO h' ∧ o ≤ z ∧ VRels ι' as ((cs.drop o).take (z - o))
  | [], o, z, xs, hxs, hp, ι, h, as, h', r, hro, hl => by
    simp at hxs
    subst hxs
    simp only [packed, Option.some.injEq] at hp
    subst hp
    simp only [List.map_nil, absFs, Option.some.injEq, Prod.mk.injEq] at hl
    obtain ⟨rfl, rfl⟩ := hl
    exact ⟨ι, r, ι.le_refl, hro, Nat.le_refl _, by simp [VRels]⟩
  | fd :: fs, o, z, xs, hxs, hp, ι, h, as, h', r, hro, hl => by
    rw [List.mapM_cons] at hxs
    simp only [packed] at hp
    split at hp
    · rename_i ho
      cases hx : DataW.trod enc P w 0 (fun _ => true) held f fd.type ((cs.drop fd.offset).take (P.cellsOf fd.type)) with
      | none => simp [hx] at hxs
      | some x =>
        cases hys : fs.mapM (fun fd => DataW.trod enc P w 0 (fun _ => true) held f fd.type ((cs.drop fd.offset).take (P.cellsOf fd.type))) with
        | none => simp [hx, hys] at hxs
        | some ys =>
          simp [hx, hys] at hxs
          subst hxs
          simp only [List.map_cons, absFs, Option.bind_eq_some_iff, Option.map_eq_some_iff] at hl
          obtain ⟨⟨a1, h1⟩, g1, ⟨b1, h2⟩, g2, he⟩ := hl
          cases he
          obtain ⟨d, ps⟩ := x
          obtain ⟨ι1, r1, l1, ro1, v1⟩ := T fd.type _ d ps hx ι h a1 h1 r hro g1
          obtain ⟨ι2, r2, l2, ro2, hle, v2⟩ := tells_fields T cs fs _ z ys hys hp ι1 h1 b1 h2 r1 ro1 g2
          refine ⟨ι2, r2, l1.trans l2, ro2, by omega, ?_⟩
          have := (v1.mono l2).append v2
          have e1 : (cs.drop o).take (z - o) = (cs.drop o).take (P.cellsOf fd.type) ++ (cs.drop (o + P.cellsOf fd.type)).take (z - (o + P.cellsOf fd.type)) := by
            rw [show z - o = P.cellsOf fd.type + (z - (o + P.cellsOf fd.type)) by omega, List.take_add, List.drop_drop]
          rw [e1, ← ho]
          rw [← ho] at this
          exact this
    · cases hp

theorem one_rel {ι : Emb} {a : AV} {v : Value} (h : VRel ι a v) : VRels ι [a] [v] := by
  simp only [VRels]
  exact ⟨v, [], rfl, h, rfl⟩

theorem tells : ∀ (f f' : Nat) (t : TypeId), LaysD enc P opq w G held f f' t
  | 0, _, _ => fun cs d ps ht => by simp [DataW.trod] at ht
  | f + 1, 0, _ => fun cs d ps _ ι h as h' _ _ ha => by simp [absD] at ha
  | f + 1, f' + 1, t => fun cs d ps ht ι h as h' r hro ha => by
    have T := fun t => tells f f' t
    unfold DataW.trod at ht
    split at ht
    case h_1 hu =>
      cases ht
      simp only [absD, hu, Option.some.injEq, Prod.mk.injEq] at ha
      obtain ⟨rfl, rfl⟩ := ha
      exact ⟨ι, r, ι.le_refl, hro, one_rel rfl⟩
    case h_2 hu =>
      split at ht
      · rename_i hk
        cases ht
        simp only [absD, hu, if_true, Option.some.injEq, Prod.mk.injEq] at ha
        obtain ⟨rfl, rfl⟩ := ha
        exact ⟨ι, r, ι.le_refl, hro, one_rel (by simp only [VRel]; rw [hk.1])⟩
      · cases ht
    case h_3 hu =>
      split at ht
      · cases ht; simp [absD, hu] at ha
      · cases ht
    case h_4 hu =>
      split at ht
      · cases ht
        simp only [absD, hu, Option.some.injEq, Prod.mk.injEq] at ha
        obtain ⟨rfl, rfl⟩ := ha
        exact ⟨ι, r, ι.le_refl, hro, one_rel (by simp [VRel])⟩
      · cases ht
    case h_5 hu =>
      cases ht
      simp only [absD, hu, Option.some.injEq, Prod.mk.injEq] at ha
      obtain ⟨rfl, rfl⟩ := ha
      exact ⟨ι, r, ι.le_refl, hro, one_rel (by simp [VRel])⟩
    case h_6 e a hu =>
      simp only [Option.map_eq_some_iff, Option.bind_eq_some_iff, Prod.mk.injEq] at ht
      obtain ⟨⟨d1, ps1⟩, ⟨cs1, hc1, hc2⟩, rfl, rfl⟩ := ht
      simp only [absD, hu] at ha
      split at ha
      · cases ha
        exact ⟨ι, r, ι.le_refl, hro, one_rel (by simp only [VRel]; exact ⟨rfl, fun b h => by (cases h), fun _ => rfl⟩)⟩
      · split at ha
        · rename_i hpos
          obtain ⟨⟨as1, h1⟩, g1, g2⟩ := Option.map_eq_some_iff.1 ha
          cases g2
          obtain ⟨ι1, r1, l1, ro1, v1⟩ := T e cs1 d1 ps1 hc2 ι h as1 h1 r hro g1
          obtain ⟨hlen, hrow⟩ := cells_row hc1
          obtain ⟨ι2, r2, l2, ro2, k1, k2, k3, k4⟩ := pushRow r1 ro1 hrow (by rw [hlen]; exact hpos) v1
          refine ⟨ι2, r2, l1.trans l2, ro2, one_rel ?_⟩
          simp only [VRel]
          exact ⟨k3, by rw [k1, k2, Nat.add_zero, ← k4]⟩
        · cases ha
    case h_7 hu =>
      cases ht
      simp only [absD, hu, Option.some.injEq, Prod.mk.injEq] at ha
      obtain ⟨rfl, rfl⟩ := ha
      exact ⟨ι, r, ι.le_refl, hro, one_rel (by simp [VRel])⟩
    case h_8 e a len cap hu =>
      simp only at ht
      split at ht
      · rename_i hb
        simp only [if_true, Option.bind_eq_some_iff, Option.map_eq_some_iff, Prod.mk.injEq] at ht
        obtain ⟨elems, he, rest, hrest, rfl, rfl⟩ := ht
        simp only [absD, hu] at ha
        split at ha
        · cases ha
          exact ⟨ι, r, ι.le_refl, hro, one_rel (by simp only [VRel]; exact ⟨rfl, fun b h => by (cases h), fun _ => rfl⟩)⟩
        · split at ha
          · rename_i hz
            cases ha
            simp only [List.length_map] at hz
            have n1 : elems.length = len := by have := (mapM_at _ _ _ he).1; simpa using this
            have n2 : rest.length = cap - len := by have := (mapM_at _ _ _ hrest).1; simpa using this
            have hl0 : len = 0 := by omega
            have hc0 : cap = 0 := by omega
            subst hl0 hc0
            refine ⟨ι.add 0 0 0 0, Rel.pushRo r hro _ (by simp [Blk.rw]) _ _ _ _ trivial, ι.le_add _ _ _ _, hro.push (by simp [Blk.rw]), one_rel ?_⟩
            simp only [VRel]
            exact ⟨by simp [r.n], Nat.le_refl _, a, rfl, fun h0 => by omega⟩
          split at ha
          · rename_i hnz hpos
            obtain ⟨⟨as1, h1⟩, g1, g2⟩ := Option.map_eq_some_iff.1 ha
            cases g2
            obtain ⟨a1, h2, b1, q1, q2, q3⟩ := absL_append _ _ _ _ _ g1
            simp only at q2 q3
            subst q3
            rw [List.range_eq_range'] at he hrest
            obtain ⟨ι1, vs1, r1, l1, ro1, v1, row1, len1, n1⟩ := tells_row (T e) a (P.cellsOf e) len 0 elems he ι h a1 h2 r hro q1
            have hrest' : (List.range' len (cap - len)).mapM (fun i => (w.cells? 0 (a.add (i * P.cellsOf e)) (P.cellsOf e)).bind (DataW.trod enc P w 0 (fun _ => true) held f e)) = some rest := by
              rw [List.range'_eq_map_range, List.mapM_map, List.range_eq_range']
              exact hrest
            obtain ⟨ι2, vs2, r2, l2, ro2, v2, row2, len2, n2⟩ := tells_row (T e) a (P.cellsOf e) (cap - len) len rest hrest' ι1 h2 b1 h1 r1 ro1 q2
            have hz : a.add (0 * P.cellsOf e) = a := by simp [Addr.add]
            rw [hz] at row1
            have hrow := rowAt_append row1 (by rw [len1]; exact row2)
            simp only [List.length_map] at hnz
            have hlen : 0 < (vs1 ++ vs2).length := by
              rw [List.length_append, len1, len2, ← Nat.add_mul]
              exact Nat.mul_pos (by omega) hpos
            obtain ⟨ι3, r3, l3, ro3, k1, k2, k3, k4⟩ := pushRow r2 ro2 hrow hlen ((v1.mono l2).append v2)
            refine ⟨ι3, r3, (l1.trans l2).trans l3, ro3, one_rel ?_⟩
            simp only [VRel, List.length_map]
            rw [n1, n2, show len + (cap - len) = cap by omega]
            exact ⟨k3, by omega, a, rfl, fun _ => by rw [k1, k2, Nat.add_zero, ← k4]⟩
          · cases ha
      · cases ht
    case h_9 fs hu =>
      split at ht
      · rename_i hlen
        obtain ⟨xs, hxs, he⟩ := Option.map_eq_some_iff.1 ht
        cases he
        simp only [absD, hu] at ha
        split at ha
        · rename_i hp
          obtain ⟨ι1, r1, l1, ro1, _, v1⟩ := tells_fields T _ fs.toList 0 _ xs hxs hp ι h as h' r hro ha
          refine ⟨ι1, r1, l1, ro1, ?_⟩
          rw [List.drop_zero, Nat.sub_zero, ← hlen, List.take_length] at v1
          exact v1
        · cases ha
      · cases ht
    case h_10 n e hu =>
      split at ht
      · rename_i hlen
        obtain ⟨xs, hxs, he⟩ := Option.map_eq_some_iff.1 ht
        cases he
        simp only [absD, hu] at ha
        split at ha
        · rename_i hp
          rw [List.length_map] at hp
          have hn : xs.length = n := by have := (mapM_at _ _ _ hxs).1; simpa using this
          rw [List.range_eq_range'] at hxs
          obtain ⟨ι1, r1, l1, ro1, v1⟩ := tells_list (T e) (P.cellsOf e) _ n 0 xs hxs (by rw [hlen, ← hp, hn, Nat.zero_add]; exact Nat.le_refl _) ι h as h' r hro ha
          refine ⟨ι1, r1, l1, ro1, ?_⟩
          rw [Nat.zero_mul, List.drop_zero, ← hn, hp, ← hlen, List.take_length] at v1
          exact v1
        · cases ha
      · cases ht
    case h_11 hu =>
      cases ht
      simp only [absD, hu, Option.some.injEq, Prod.mk.injEq] at ha
      obtain ⟨rfl, rfl⟩ := ha
      exact ⟨ι, r, ι.le_refl, hro, one_rel (by simp [VRel])⟩
    case h_12 hu =>
      split at ht
      · cases ht; simp [absD, hu] at ha
      · obtain ⟨_, _, he⟩ := Option.map_eq_some_iff.1 ht
        cases he
        simp only [absD, hu, Option.some.injEq, Prod.mk.injEq] at ha
        obtain ⟨rfl, rfl⟩ := ha
        exact ⟨ι, r, ι.le_refl, hro, one_rel (by simp only [VRel]; exact ⟨rfl, fun b h => by (cases h), fun _ => rfl⟩)⟩
      · cases ht
    case h_13 hu =>
      cases ht
      simp only [absD, hu, Option.some.injEq, Prod.mk.injEq] at ha
      obtain ⟨rfl, rfl⟩ := ha
      exact ⟨ι, r, ι.le_refl, hro, one_rel (by simp [VRel])⟩
    case h_14 hu =>
      split at ht
      · split at ht
        · obtain ⟨_, _, he⟩ := Option.bind_eq_some_iff.1 ht
          simp only at he
          split at he
          · cases he; simp [absD, hu] at ha
          · cases he
        · cases ht
      · cases ht
    case h_15 hu =>
      cases ht
      simp only [absD, hu, Option.some.injEq, Prod.mk.injEq] at ha
      obtain ⟨rfl, rfl⟩ := ha
      exact ⟨ι, r, ι.le_refl, hro, one_rel (by simp [VRel])⟩
    case h_16 hu => cases ht; simp [absD, hu] at ha
    case h_17 hu => cases ht; simp [absD, hu] at ha
    all_goals first
      | (cases ht; done)
      | (rename_i hu; split at ht <;> first | (cases ht; done) | (simp only [Option.some.injEq, Prod.mk.injEq] at ht; obtain ⟨rfl, rfl⟩ := ht; simp [absD, hu] at ha))


/-- A value as the cells that it has. -/
def absArg (P : Program) (opq : TypeId → Bool) (f : Nat) (t : TypeId) (d : DataW H) (h : AH) : Option (AV × AH) :=
  match P.underlying t with
  | some (.struct _) | some (.array _ _) => (absD P opq f t d h).map fun (cs, h') => (.agg cs, h')
  | some _ => (absD P opq f t d h).bind fun (cs, h') => match cs with
    | [c] => some (c, h')
    | _ => none
  | none => none

def absArgs (P : Program) (opq : TypeId → Bool) (f : Nat) : List TypeId → List (DataW H) → AH → Option (List AV × AH)
  | [], [], h => some ([], h)
  | t :: ts, d :: ds, h => (absArg P opq f t d h).bind fun (a, h1) => (absArgs P opq f ts ds h1).map fun (as, h2) => (a :: as, h2)
  | _, _, _ => none

theorem cells_one {v : Value} (h : ∀ cs, v ≠ .agg cs) : v.cells.toList = [v] := by
  cases v <;> first | rfl | exact absurd rfl (h _)

theorem not_agg {r : Reach} {base : Nat} {t : TypeId} {v : Value} (hs : ∀ fs, P.underlying t ≠ some (.struct fs)) (ha : ∀ n e, P.underlying t ≠ some (.array n e)) (hv : Value.okWide P w r base t v) : ∀ cs, v ≠ .agg cs := by
  intro cs he
  subst he
  unfold Value.okWide at hv
  split at hv
  · rename_i h1; exact hs _ h1
  · rename_i h1; exact ha _ _ h1
  · unfold Cell.okWide at hv
    split at hv <;> first | (rename_i h1; cases h1; done) | (rename_i h1 h2; cases h2; done) | skip
    unfold Cell.ok at hv
    split at hv <;> simp_all

theorem openArg {r : Reach} {base f : Nat} {t : TypeId} {v : Value} {d : DataW H} {ps : List MemPlace} (ht : DataW.Trod enc P w 0 (fun _ => true) true t v d ps) (hok : Value.okWide P w r base t v)
    {ι : Emb} {h : AH} {a : AV} {h' : AH} (hr : Rel G ι h w) (hro : RO h) (ha : absArg P opq f t d h = some (a, h')) : ∃ ι', Rel G ι' h' w ∧ ι.le ι' ∧ RO h' ∧ VRel ι' a v := by
  obtain ⟨fuel, ht⟩ := ht
  have agg : ∀ cs, v = .agg cs → (absD P opq f t d h).map (fun x => (AV.agg x.1, x.2)) = some (a, h') → ∃ ι', Rel G ι' h' w ∧ ι.le ι' ∧ RO h' ∧ VRel ι' a v := fun cs hv hm => by
    obtain ⟨⟨as, h1⟩, g1, g2⟩ := Option.map_eq_some_iff.1 hm
    cases g2
    obtain ⟨ι', r', l', ro', v'⟩ := tells fuel f t _ d ps ht ι h as _ hr hro g1
    refine ⟨ι', r', l', ro', ?_⟩
    subst hv
    simp only [VRel]
    exact ⟨cs, rfl, by simpa [Value.cells] using v'⟩
  unfold absArg at ha
  split at ha
  · rename_i hu
    unfold Value.okWide at hok
    rw [hu] at hok
    obtain ⟨cs, hv, _⟩ := hok
    exact agg cs hv ha
  · rename_i hu
    unfold Value.okWide at hok
    rw [hu] at hok
    obtain ⟨cs, hv, _⟩ := hok
    exact agg cs hv ha
  · rename_i h1 h2 hu
    have hna := not_agg (fun fs h => by rw [hu] at h; cases h; exact h1 _ rfl) (fun n e h => by rw [hu] at h; cases h; exact h2 _ _ rfl) hok
    obtain ⟨⟨as, h3⟩, g1, g2⟩ := Option.bind_eq_some_iff.1 ha
    simp only at g2
    split at g2
    · cases g2
      obtain ⟨ι', r', l', ro', v'⟩ := tells fuel f t _ d ps ht ι h _ _ hr hro g1
      refine ⟨ι', r', l', ro', ?_⟩
      rw [cells_one hna] at v'
      simp only [VRels] at v'
      obtain ⟨x, xs, he, h4, _⟩ := v'
      cases he
      exact h4
    · cases g2
  · cases ha

theorem openArgs {r : Reach} {base f : Nat} : ∀ {ts : List TypeId} {vs : List Value} {ds : List (DataW H)} {ps : List MemPlace}, DataW.TrodAll enc P w 0 (fun _ => true) true ts vs ds ps →
    (∀ (j : Nat) t v, ts[j]? = some t → vs[j]? = some v → Value.okWide P w r base t v) → ∀ {ι : Emb} {h : AH} {as : List AV} {h' : AH}, Rel G ι h w → RO h → absArgs P opq f ts ds h = some (as, h') →
      ∃ ι', Rel G ι' h' w ∧ ι.le ι' ∧ RO h' ∧ VRels ι' as vs
  | [], [], [], _, _, _, ι, h, as, h', hr, hro, ha => by
    cases ha
    exact ⟨ι, hr, ι.le_refl, hro, by simp [VRels]⟩
  | t :: ts, v :: vs, d :: ds, ps, ht, hok, ι, h, as, h', hr, hro, ha => by
    obtain ⟨p, q, h1, h2, _⟩ := ht
    simp only [absArgs, Option.bind_eq_some_iff, Option.map_eq_some_iff] at ha
    obtain ⟨⟨a, k1⟩, g1, ⟨as', k2⟩, g2, he⟩ := ha
    cases he
    obtain ⟨ι1, r1, l1, ro1, v1⟩ := openArg h1 (hok 0 t v rfl rfl) hr hro g1
    obtain ⟨ι2, r2, l2, ro2, v2⟩ := openArgs h2 (fun j t' v' hj hj' => hok (j + 1) t' v' (by simpa using hj) (by simpa using hj')) r1 ro1 g2
    refine ⟨ι2, r2, l1.trans l2, ro2, ?_⟩
    simp only [VRels]
    exact ⟨v, vs, rfl, v1.mono l2, v2⟩
end
end Go.Fs
