/- The abstract machine of the Fs texts, part 7: what it runs, and that each of its runs is one of the program. -/
import Derived.Test.YtjmhjipacmlojaaGreatDoorFz05
import Derived.Lib.SplitLaws
import Derived.Lib.Join
import Derived.Test.YtjmhjipacmlojaaGreatDoorFz03
import Derived.Lib.Bytealg
import Derived.Laws.AppendOwn
import Derived.Lib.Builder
section
/- Closed calls that read what lies in a first heap alone: what they come to over it, they come to over each heap that has grown out of it. -/
namespace Go.Fs

def Tr.allK {α : Type} : (Nat → α → Bool) → Tr α → Bool
  | _, .leaf => true
  | p, .node v l r => (match v with | none => true | some x => p 0 x) && (Tr.allK (fun k x => p (2 * k + 1) x) l && Tr.allK (fun k x => p (2 * k + 2) x) r)
theorem Tr.allK_get {α : Type} : ∀ {t : Tr α} {p : Nat → α → Bool} {k : Nat} {x : α}, Tr.allK p t = true → t.get k = some x → p k x = true
  | .leaf, p, k, x, _, h => by simp [Tr.get] at h
  | .node v l r, p, k, x, ha, h => by
    simp only [Tr.allK, Bool.and_eq_true] at ha
    unfold Tr.get at h
    split at h
    · rename_i h0
      subst h0
      have := ha.1
      rw [h] at this
      exact this
    · split at h
      · rename_i h1
        have := Tr.allK_get ha.2.1 h
        rwa [show 2 * (k / 2) + 1 = k by omega] at this
      · have := Tr.allK_get ha.2.2 h
        rwa [show 2 * (k / 2 - 1) + 2 = k by omega] at this

/-- A block that is only read, and names no place from n on. -/
def Blk.plain (n : Nat) : Blk → Bool
  | .cells cs ro => ro && AV.unders n cs
  | .dead => true
  | _ => false

/-- A heap in which nothing may be written. -/
def heapOk (G : Nat) (h : AH) : Bool := Nat.ble G h.n && Tr.allK (fun b c => Nat.ble (b + 1) h.n && c.plain h.n) h.t

def Grown (h0 h : AH) : Prop := h0.n ≤ h.n ∧ ∀ b, b < h0.n → h.get b = h0.get b
theorem Grown.refl (h : AH) : Grown h h := ⟨Nat.le_refl _, fun _ _ => rfl⟩
theorem Grown.low {h0 h : AH} (g : Grown h0 h) (l : Nat) : Grown h0 (h.withLow l) := ⟨by simpa using g.1, fun b hb => by simpa using g.2 b hb⟩
theorem Grown.push {h0 h : AH} (g : Grown h0 h) (c : Blk) : Grown h0 (h.push c) := ⟨by have := g.1; simp; omega, fun b hb => by have := g.1; rw [Hp.get_push_ne _ _ _ (by omega)]; exact g.2 b hb⟩
theorem Grown.set {h0 h : AH} (g : Grown h0 h) {k : Nat} (hk : h0.n ≤ k) (c : Blk) : Grown h0 (h.set k c) := ⟨by simpa using g.1, fun b hb => by rw [Hp.get_set_ne _ _ _ _ (by omega)]; exact g.2 b hb⟩

theorem VRels.narrow {ι ι' : Emb} (h : ι.le ι') {a : List AV} (hu : AV.unders ι.n a = true) {v : List Value} (r : VRels ι' a v) : VRels ι a v := r.back h hu
theorem unders_at {n : Nat} : ∀ {cs : List AV} {i : Nat} {c : AV}, AV.unders n cs = true → cs[i]? = some c → c.under n = true
  | a :: as, 0, c, h, hc => by
    simp only [AV.unders, Bool.and_eq_true] at h
    simp only [List.getElem?_cons_zero, Option.some.injEq] at hc
    subst hc; exact h.1
  | a :: as, i + 1, c, h, hc => by
    simp only [AV.unders, Bool.and_eq_true] at h
    exact unders_at h.2 (by simpa using hc)

/-- The first heap, in the world of a later one. -/
theorem Rel.sub {G : Nat} {ι : Emb} {h h0 : AH} {w : World} (r : Rel G ι h w) (hok : heapOk G h0 = true) (hg : Grown h0 h) : Rel G ⟨h0.n, ι.blk, ι.sh, ι.size, ι.ty⟩ h0 w ∧ ∀ b c, h0.get b = some c → ¬ c.rw := by
  simp only [heapOk, Bool.and_eq_true] at hok
  have hG : G ≤ h0.n := Nat.le_of_ble_eq_true hok.1
  have hat : ∀ b c, h0.get b = some c → b < h0.n ∧ c.plain h0.n = true := fun b c hb => by
    have := Tr.allK_get hok.2 (show h0.t.get b = some c from hb)
    simp only [Bool.and_eq_true] at this
    exact ⟨Nat.le_of_ble_eq_true this.1, this.2⟩
  have hle : (⟨h0.n, ι.blk, ι.sh, ι.size, ι.ty⟩ : Emb).le ι := ⟨by rw [r.n]; exact hg.1, fun _ _ => rfl, fun _ _ => rfl, fun _ _ => rfl, fun _ _ => rfl⟩
  have hro : ∀ b c, h0.get b = some c → ¬ c.rw := fun b c hb hrw => by
    have := (hat b c hb).2
    cases c with
    | cells cs ro => simp only [Blk.plain, Bool.and_eq_true] at this; simp only [Blk.rw] at hrw; rw [hrw] at this; cases this.1
    | dead => exact hrw
    | map es => cases this
    | typ a b => cases this
    | iter a b => cases this
  refine ⟨⟨rfl, fun b c hb => (hat b c hb).1, hG, r.glob, fun b c hb => ?_, fun b b' c c' hb _ _ hrw _ => absurd hrw (hro b c hb)⟩, hro⟩
  obtain ⟨h1, h2⟩ := hat b c hb
  have hb' : h.get b = some c := by rw [hg.2 b h1, hb]
  have hB := r.brel b c hb'
  cases c with
  | cells cs ro =>
    simp only [Blk.plain, Bool.and_eq_true] at h2
    obtain ⟨arr, e, fr, g1, g2, g3, g4, g5⟩ := hB
    refine ⟨arr, e, fr, g1, g2, fun i c hc => ?_, fun hh => (by rw [hh] at h2; cases h2.1), g5⟩
    obtain ⟨v, q1, q2⟩ := g3 i c hc
    exact ⟨v, q1, q2.back hle (unders_at h2.2 hc)⟩
  | dead => trivial
  | map es => cases h2
  | typ a b => cases h2
  | iter a b => cases h2

section
variable {P : Program}

theorem good_over (hm : P.follows .mixedOrders = true) {orc : Orc} (ho : GoodOrc P orc) {n f : Nat} (hb : ((P.funcs[f]?).bind (·.body)).isSome = true) {args : List AV} {v : AV} {h0 h1 h : AH} (hok : heapOk P.globals.size h0 = true)
    (hr : runQ orc (tbl P) n f args h0 = some (v, h1)) (ha : AV.unders 0 args = true) (hv : v.under 0 = true) (hg : Grown h0 h) : GoodAt P f args h v h := by
  rw [runQ_eq] at hr
  obtain ⟨k1, k2⟩ := (run_good hm ho n f args _ v h1 hr).body hb
  refine .inl ⟨k1, fun ι w rargs r hargs => ?_⟩
  obtain ⟨r0, hro⟩ := r.sub hok hg
  refine (k2 _ w rargs r0 (unders_any hargs ha)).mono fun e w' ⟨ι', rv, he, q1, q2, q3⟩ => ?_
  have hkept : ∀ k, k < w.heap.size → w'.heap[k]? = w.heap[k]? := fun k hk => q3.kept k hk fun b c hb hrw => absurd hrw (hro b c hb)
  exact ⟨ι, rv, he, under_any q1 hv, r.later hkept, ⟨ι.le_refl, q3.os, q3.tape, q3.output, q3.size, fun k hk _ => hkept k hk, fun b c hb hc => .inr ⟨b, c, hb, hc, rfl⟩, Nat.le_refl _, Nat.le_refl _, fun _ _ _ => rfl⟩⟩

open Classical in
/-- A function told over the first heap, wherever a heap has grown out of it. -/
noncomputable def orcOver (P : Program) (orc : Orc) (h0 : AH) (n g : Nat) : Orc := fun f => match Nat.beq f g with
  | true => some fun args h => if Grown h0 h ∧ AV.unders 0 args = true then (match runQ orc (tbl P) n g args h0 with
    | some (v, _) => if v.under 0 = true then some (v, h) else none
    | none => none) else none
  | false => orc f

theorem good_orcOver (hm : P.follows .mixedOrders = true) {orc : Orc} (ho : GoodOrc P orc) {h0 : AH} (hok : heapOk P.globals.size h0 = true) {n g : Nat} (hb : ((P.funcs[g]?).bind (·.body)).isSome = true) : GoodOrc P (orcOver P orc h0 n g) := by
  intro f s hs args h v h' hv
  unfold orcOver at hs
  split at hs
  · rename_i hf
    cases hs
    obtain rfl := Nat.eq_of_beq_eq_true hf
    simp only at hv
    split at hv
    · rename_i hc
      split at hv
      · rename_i v0 h1 hrun
        split at hv
        · rename_i hv0
          cases hv
          exact good_over hm ho hb hok hrun hc.2 hv0 hc.1
        · cases hv
      · cases hv
    · cases hv
  · exact ho f s hs args h v h' hv

theorem acall_over {orc : Orc} {h0 h : AH} {n g : Nat} {args : List AV} {v : AV} (hr : (runQ orc (tbl P) n g args h0).map Prod.fst = some v) (ha : AV.unders 0 args = true) (hv : v.under 0 = true) (hg : Grown h0 h) :
    acall (orcOver P orc h0 n g) (tbl P) g args h = some (v, h) := by
  classical
  have e : orcOver P orc h0 n g g = some fun args h => if Grown h0 h ∧ AV.unders 0 args = true then (match runQ orc (tbl P) n g args h0 with
    | some (v, _) => if v.under 0 = true then some (v, h) else none
    | none => none) else none := by
    unfold orcOver
    rw [Nat.beq_refl]
  obtain ⟨⟨x, h1⟩, h2, h3⟩ := Option.map_eq_some_iff.1 hr
  simp only at h3
  subst h3
  refine acall_orc e ?_
  rw [if_pos ⟨hg, ha⟩, h2]
  simp only
  rw [if_pos hv]

theorem some_getD {α : Type} {o : Option α} {d : α} (h : o.isSome = true) : o = some (o.getD d) := by cases o <;> simp_all

/-- A closed law, by its symbolic walk, over variables that read as listed. -/
theorem law_closed (hm : P.follows .mixedOrders = true) {orc : Orc} (ho : GoodOrc P orc) {f k : Nat} (hb : ((P.funcs[f]?).bind (·.body)).isSome = true) {w : World} {h0 h' : AH} {x : Bool}
    {laid : List (String × DataW Unit)} (hl : absLaid P k laid (start P.globals.size) = some h0) (hw : laidMet P laid w) {g : Nat} (hg : g < P.globals.size) {m : Int} (hc : w.cell? ⟨g, 0, none⟩ = some (.int .i64 m))
    (hr : acall orc (tbl P) f [] (h0.set g (.cells [.int .i64 m] true)) = some (.bool x, h')) : Calls P f #[] w fun e w' => e = .returned (.bool x) ∧ Go.RowKit.Below w.heap.size w w' := by
  obtain ⟨ps0, hv, _⟩ := hw
  obtain ⟨ι, r, hro, hle⟩ := laid_rel hv hl (start_relW P.globals.size w) (fun b c hb => by rw [start_get] at hb; cases hb) (Emb.le_refl _)
  obtain ⟨r2, ro2⟩ := r.setVar hro hle hg hc (a := .int .i64 m) (by simp [VRel])
  have := calls_acall hm ho hb hr r2 (rargs := []) (by simp [VRels]) ro2
  simpa using this
end
end Go.Fs
end

section
/- Several functions told over one first heap. -/
namespace Go.Fs
variable {P : Program}

noncomputable def orcOvers (P : Program) (orc : Orc) (h0 : AH) (n : Nat) (gs : List Nat) : Orc := fun f => match gs.contains f with
  | true => orcOver P orc h0 n f f
  | false => orc f

theorem good_orcOvers (hm : P.follows .mixedOrders = true) {orc : Orc} (ho : GoodOrc P orc) {h0 : AH} (hok : heapOk P.globals.size h0 = true) {n : Nat} {gs : List Nat} (hb : (gs.all fun g => ((P.funcs[g]?).bind (·.body)).isSome) = true) : GoodOrc P (orcOvers P orc h0 n gs) := by
  intro f s hs args h v h' hv
  unfold orcOvers at hs
  split at hs
  · rename_i hc
    exact good_orcOver hm ho hok (g := f) (List.all_eq_true.1 hb f (List.contains_iff_mem.1 hc)) f s hs args h v h' hv
  · exact ho f s hs args h v h' hv

theorem acall_told {orc : Orc} {t : Nat → Option CF} {f : Nat} {s : List AV → AH → Option (AV × AH)} (hs : orc f = some s) {args : List AV} {h : AH} {r : AV × AH} (ha : acall orc t f args h = some r) : s args h = some r := by
  obtain ⟨n, hn⟩ := acall_ex ha
  cases n with
  | zero => simp [runO] at hn
  | succ n =>
    rw [runO, hs] at hn
    exact hn
theorem acall_overs {orc orc' : Orc} {h0 h : AH} {n g : Nat} {args : List AV} {v : AV} (he : orc' g = orcOver P orc h0 n g g) (hr : (runQ orc (tbl P) n g args h0).map Prod.fst = some v) (ha : AV.unders 0 args = true) (hv : v.under 0 = true) (hg : Grown h0 h) :
    acall orc' (tbl P) g args h = some (v, h) := by
  have h1 := acall_over (P := P) hr ha hv hg
  cases hs : orcOver P orc h0 n g g with
  | none =>
    exfalso
    unfold orcOver at hs
    rw [Nat.beq_refl] at hs
    cases hs
  | some s => exact acall_orc (he.trans hs) (acall_told hs h1)

/-- Does a run come to this text? -/
noncomputable def isStr (r : Option (AV × AH)) (s : List UInt8) : Bool := match r with
  | some (v, _) => v.same (.str s)
  | none => false
theorem isStr_eq {r : Option (AV × AH)} {s : List UInt8} (h : isStr r s = true) : r.map Prod.fst = some (.str s) := by
  unfold isStr at h
  split at h
  · rw [Option.map_some, AV.same_eq h]
  · cases h
end Go.Fs
end

section
/- Laws with parameters over variables that read as listed, some of them interface values of which no more is known than that. -/
namespace Go.Fs
open Go.RowKit Go.ChangeShapes

theorem trod_ptr {H : Type} {P : Program} {enc : TypeId × Value → H} {w : World} {base : Nat} {sp : Nat → Bool} {held : Bool} {fuel : Nat} {t : TypeId} {cs : List Value} {x : DataW H} {ps : List MemPlace}
    (h : DataW.trod enc P w base sp held fuel t cs = some (.ptr x, ps)) : ∃ e, P.underlying t = some (.pointer e) := by
  cases fuel with
  | zero => cases h
  | succ f =>
    unfold DataW.trod at h
    split at h
    case h_6 => exact ⟨_, by assumption⟩
    all_goals first | (cases h; done) | skip
    all_goals (repeat' split at h)
    all_goals first | (cases h; done) | (simp only [Option.map_eq_some_iff, Prod.mk.injEq] at h; obtain ⟨x, h1, h2, h3⟩ := h; cases h2; done) | skip
    all_goals simp only [Option.bind_eq_some_iff, Option.map_eq_some_iff, Prod.mk.injEq] at h
    all_goals first | (obtain ⟨_, _, _, _, h2, _⟩ := h; cases h2; done) | skip
    all_goals (obtain ⟨_, _, h2⟩ := h; split at h2 <;> cases h2)

theorem trod_iface {H : Type} {P : Program} {enc : TypeId × Value → H} {w : World} {base : Nat} {sp : Nat → Bool} {fuel : Nat} {t : TypeId} {ms : Array (String × TypeId)} {cs : List Value} {s : String} {x : DataW H} {ps : List MemPlace} (hu : P.underlying t = some (.interface ms))
    (h : DataW.trod enc P w base sp false fuel t cs = some (.iface s (.ptr x), ps)) : ∃ u v e, cs = [.iface u v] ∧ P.underlying u = some (.pointer e) ∧ P.typeName? 3 u = some s := by
  cases fuel with
  | zero => cases h
  | succ f =>
    unfold DataW.trod at h
    split at h <;> rename_i h1 <;> (rw [hu] at h1) <;> first | (cases h1; done) | skip
    · cases h
    · split at h
      · cases h
      · simp only [Option.map_eq_some_iff, Prod.mk.injEq, DataW.iface.injEq] at h
        obtain ⟨⟨y, q⟩, h3, ⟨h5, h4⟩, _⟩ := h
        simp only at h4
        subst h4
        obtain ⟨e, he⟩ := trod_ptr h3
        refine ⟨_, _, e, rfl, he, ?_⟩
        rw [← h5]; assumption
      · cases h
    all_goals (cases h)

/-- A listed variable of an interface type that holds a pointer. -/
theorem laid_iface {P : Program} {w : World} {n s : String} {x : DataW Unit} {g t : Nat} {ms : Array (String × TypeId)} (hg : P.globalNamed n = some g) (ht : (P.globals[g]?).map (·.type) = some t) (hu : P.underlying t = some (.interface ms)) :
    ∀ {laid : List (String × DataW Unit)} {ps : List MemPlace}, DataW.LaidVars P w laid ps → (n, .iface s (.ptr x)) ∈ laid → ∃ u v e, w.cell? ⟨g, 0, none⟩ = some (.iface u v) ∧ P.underlying u = some (.pointer e) ∧ P.typeName? 3 u = some s ∧ MemPlace.cell g 0 ∈ ps
  | [], _, _, hm => by cases hm
  | (n', d') :: l, ps, hv, hm => by
    obtain ⟨g', t', cs, fuel, p, q, h1, h2, h3, h4, h5, h6⟩ := hv
    rcases List.mem_cons.1 hm with he | hm
    · cases he
      obtain rfl : g = g' := Option.some.inj (hg.symm.trans h1)
      obtain rfl : t = t' := Option.some.inj (ht.symm.trans h2)
      obtain ⟨u, v, e, hc, hp, ht⟩ := trod_iface hu h4
      have h0 : cs[0]? = some (.iface u v) := by
        have : cs.toList[0]? = some (.iface u v) := by rw [hc]; rfl
        simpa using this
      refine ⟨u, v, e, ?_, hp, ht, ?_⟩
      · unfold World.var? at h3
        rw [hg] at h3
        simp only [Option.bind_some] at h3
        split at h3
        · rename_i c e fr hh
          cases h3
          unfold World.cell?
          simp only [Option.isSome_none, Bool.false_eq_true, if_false, hh]
          exact h0
        · cases h3
      · subst h6
        have hsz : cs.size = 1 := by have := congrArg List.length hc; simpa using this
        rw [hsz]
        simp [MemPlace.row]
    · obtain ⟨u, v, e, k1, k2, k4, k3⟩ := laid_iface hg ht hu h5 hm
      exact ⟨u, v, e, k1, k2, k4, by subst h6; simp [k3]⟩

theorem laid_ifaceP {P : Program} {w : World} {n s : String} {d : DataW Unit} {x : DataW Unit} {g t : Nat} {ms : Array (String × TypeId)} (hg : P.globalNamed n = some g) (ht : (P.globals[g]?).map (·.type) = some t) (hu : P.underlying t = some (.interface ms)) {laid : List (String × DataW Unit)} (hw : laidMet P laid w) (hd : d = .iface s (.ptr x)) (hm : (n, d) ∈ laid) :
    ∃ u v, w.cell? ⟨g, 0, none⟩ = some (.iface u v) ∧ ∀ ι : Emb, VRel ι (.iface u (.junk true)) (.iface u v) := by
  subst hd
  obtain ⟨ps, hv, _, hok⟩ := hw
  obtain ⟨u, v, e, h1, h2, h4, h3⟩ := laid_iface hg ht hu hv hm
  obtain ⟨a, rfl⟩ := Go.WideShapes.okWide_pointer h2 ((hok g 0 h3).2 u v h1)
  exact ⟨u, _, h1, fun ι => by simp only [VRel]; exact ⟨_, rfl, rfl, by simp, fun _ => rfl⟩⟩

/-- A heap that has grown out of a first one, in which some interface values were not told. -/
def GrownI (h0 h : AH) : Prop := h0.n ≤ h.n ∧ ∀ b, b < h0.n → h.get b = h0.get b ∨ ∃ u x, h.get b = some (.cells [.iface u x] true) ∧ h0.get b = some (.cells [.junk true] true)
theorem GrownI.of {h0 h1 h : AH} (g : GrownI h0 h1) (k : Grown h1 h) : GrownI h0 h :=
  ⟨Nat.le_trans g.1 k.1, fun b hb => by rw [k.2 b (Nat.lt_of_lt_of_le hb g.1)]; exact g.2 b hb⟩
theorem GrownI.refl (h : AH) : GrownI h h := ⟨Nat.le_refl _, fun _ _ => .inl rfl⟩
theorem GrownI.set {h : AH} {k : Nat} {u : TypeId} {x : AV} (hk : h.get k = some (.cells [.junk true] true)) {h0 : AH} (g : GrownI h0 h) (h0k : h0.get k = some (.cells [.junk true] true)) : GrownI h0 (h.set k (.cells [.iface u x] true)) :=
  ⟨g.1, fun b hb => by
    by_cases e : b = k
    · subst e
      exact .inr ⟨u, x, Hp.get_set_self _ _ _, h0k⟩
    · rw [Hp.get_set_ne _ _ _ _ e]; exact g.2 b hb⟩

theorem Rel.subI {G : Nat} {ι : Emb} {h h0 : AH} {w : World} (r : Rel G ι h w) (hok : heapOk G h0 = true) (hg : GrownI h0 h) : Rel G ⟨h0.n, ι.blk, ι.sh, ι.size, ι.ty⟩ h0 w ∧ ∀ b c, h0.get b = some c → ¬ c.rw := by
  simp only [heapOk, Bool.and_eq_true] at hok
  have hG : G ≤ h0.n := Nat.le_of_ble_eq_true hok.1
  have hat : ∀ b c, h0.get b = some c → b < h0.n ∧ c.plain h0.n = true := fun b c hb => by
    have := Tr.allK_get hok.2 (show h0.t.get b = some c from hb)
    simp only [Bool.and_eq_true] at this
    exact ⟨Nat.le_of_ble_eq_true this.1, this.2⟩
  have hle : (⟨h0.n, ι.blk, ι.sh, ι.size, ι.ty⟩ : Emb).le ι := ⟨by rw [r.n]; exact hg.1, fun _ _ => rfl, fun _ _ => rfl, fun _ _ => rfl, fun _ _ => rfl⟩
  have hro : ∀ b c, h0.get b = some c → ¬ c.rw := fun b c hb hrw => by
    have := (hat b c hb).2
    cases c with
    | cells cs ro => simp only [Blk.plain, Bool.and_eq_true] at this; simp only [Blk.rw] at hrw; rw [hrw] at this; cases this.1
    | dead => exact hrw
    | map es => cases this
    | typ a b => cases this
    | iter a b => cases this
  refine ⟨⟨rfl, fun b c hb => (hat b c hb).1, hG, r.glob, fun b c hb => ?_, fun b b' c c' hb _ _ hrw _ => absurd hrw (hro b c hb)⟩, hro⟩
  obtain ⟨h1, h2⟩ := hat b c hb
  rcases hg.2 b h1 with he | ⟨u, x, he, he0⟩
  · have hb' : h.get b = some c := by rw [he, hb]
    have hB := r.brel b c hb'
    cases c with
    | cells cs ro =>
      simp only [Blk.plain, Bool.and_eq_true] at h2
      obtain ⟨arr, e, fr, g1, g2, g3, g4, g5⟩ := hB
      refine ⟨arr, e, fr, g1, g2, fun i c hc => ?_, fun hh => (by rw [hh] at h2; cases h2.1), g5⟩
      obtain ⟨v, q1, q2⟩ := g3 i c hc
      exact ⟨v, q1, q2.back hle (unders_at h2.2 hc)⟩
    | dead => trivial
    | map es => cases h2
    | typ a b => cases h2
    | iter a b => cases h2
  · rw [he0] at hb
    cases hb
    have hB := r.brel b _ he
    obtain ⟨arr, e, fr, g1, g2, g3, g4, g5⟩ := hB
    refine ⟨arr, e, fr, g1, g2, fun i c hc => ?_, fun hh => (by cases hh), g5⟩
    cases i with
    | zero =>
      obtain ⟨v, q1, q2⟩ := g3 0 _ rfl
      simp only [VRel] at q2
      obtain ⟨rx, rfl, _⟩ := q2
      simp at hc
      subst hc
      exact ⟨_, q1, by simp only [VRel]; exact ⟨rfl, by simp, fun _ => rfl⟩⟩
    | succ i => simp at hc

section
variable {P : Program}
theorem good_overI (hm : P.follows .mixedOrders = true) {orc : Orc} (ho : GoodOrc P orc) {n f : Nat} (hb : ((P.funcs[f]?).bind (·.body)).isSome = true) {args : List AV} {v : AV} {h0 h1 h : AH} (hok : heapOk P.globals.size h0 = true)
    (hr : runQ orc (tbl P) n f args h0 = some (v, h1)) (ha : AV.unders 0 args = true) (hv : v.under 0 = true) (hg : GrownI h0 h) : GoodAt P f args h v h := by
  rw [runQ_eq] at hr
  obtain ⟨k1, k2⟩ := (run_good hm ho n f args _ v h1 hr).body hb
  refine .inl ⟨k1, fun ι w rargs r hargs => ?_⟩
  obtain ⟨r0, hro⟩ := r.subI hok hg
  refine (k2 _ w rargs r0 (unders_any hargs ha)).mono fun e w' ⟨ι', rv, he, q1, q2, q3⟩ => ?_
  have hkept : ∀ k, k < w.heap.size → w'.heap[k]? = w.heap[k]? := fun k hk => q3.kept k hk fun b c hb hrw => absurd hrw (hro b c hb)
  exact ⟨ι, rv, he, under_any q1 hv, r.later hkept, ⟨ι.le_refl, q3.os, q3.tape, q3.output, q3.size, fun k hk _ => hkept k hk, fun b c hb hc => .inr ⟨b, c, hb, hc, rfl⟩, Nat.le_refl _, Nat.le_refl _, fun _ _ _ => rfl⟩⟩

open Classical in
/-- Functions told over the first heap, wherever a heap has grown out of it. -/
noncomputable def orcOversI (P : Program) (orc : Orc) (h0 : AH) (n : Nat) (gs : List Nat) : Orc := fun f => match gs.contains f with
  | true => some fun args h => if GrownI h0 h ∧ AV.unders 0 args = true then (match runQ orc (tbl P) n f args h0 with
    | some (v, _) => if v.under 0 = true then some (v, h) else none
    | none => none) else none
  | false => orc f

theorem good_orcOversI (hm : P.follows .mixedOrders = true) {orc : Orc} (ho : GoodOrc P orc) {h0 : AH} (hok : heapOk P.globals.size h0 = true) {n : Nat} {gs : List Nat} (hb : (gs.all fun g => ((P.funcs[g]?).bind (·.body)).isSome) = true) : GoodOrc P (orcOversI P orc h0 n gs) := by
  intro f s hs args h v h' hv
  unfold orcOversI at hs
  split at hs
  · rename_i hc
    cases hs
    simp only at hv
    split at hv
    · rename_i hx
      split at hv
      · rename_i v0 h1 hrun
        split at hv
        · rename_i hv0
          cases hv
          exact good_overI hm ho (List.all_eq_true.1 hb f (List.contains_iff_mem.1 hc)) hok hrun hx.2 hv0 hx.1
        · cases hv
      · cases hv
    · cases hv
  · exact ho f s hs args h v h' hv

theorem acall_oversI {orc orc' : Orc} {h0 h : AH} {n g : Nat} {gs : List Nat} {args : List AV} {v : AV} (he : orc' g = orcOversI P orc h0 n gs g) (hc : gs.contains g = true) (hr : (runQ orc (tbl P) n g args h0).map Prod.fst = some v) (ha : AV.unders 0 args = true) (hv : v.under 0 = true) (hg : GrownI h0 h) :
    acall orc' (tbl P) g args h = some (v, h) := by
  classical
  obtain ⟨⟨x, h1⟩, h2, h3⟩ := Option.map_eq_some_iff.1 hr
  simp only at h3
  subst h3
  have e : orc' g = some fun args h => if GrownI h0 h ∧ AV.unders 0 args = true then (match runQ orc (tbl P) n g args h0 with
    | some (v, _) => if v.under 0 = true then some (v, h) else none
    | none => none) else none := by
    rw [he]
    unfold orcOversI
    rw [hc]
  refine acall_orc e ?_
  rw [if_pos ⟨hg, ha⟩, h2]
  simp only
  rw [if_pos hv]
end

section
variable {H : Type} {enc : TypeId × Value → H} {P : Program}
/-- A law over variables that read as listed; one more is any number, two are interface values. -/
theorem law_laids (hm : P.follows .mixedOrders = true) {orc : Orc} {f k : Nat} (hb : ((P.funcs[f]?).bind (·.body)).isSome = true) {opq : TypeId → Bool} {fuel : Nat} {ts : List TypeId} {vs : Array Value} {ds : List (DataW H)} {ps : List MemPlace} {w : World} {base : Nat} {as : List AV} {h0 h h' : AH} {x : Bool}
    {laid : List (String × DataW Unit)} (ht : DataW.TrodAll enc P w 0 (fun _ => true) true ts vs.toList ds ps) (hok : ∀ (j : Nat) t v, ts[j]? = some t → vs.toList[j]? = some v → Value.okWide P w .any base t v)
    (hl : absLaid P k laid (start P.globals.size) = some h0) (hw : laidMet P laid w) {g g1 g2 : Nat} (hg : g < P.globals.size) (hg1 : g1 < P.globals.size) (hg2 : g2 < P.globals.size) {m : Int} (hc : w.cell? ⟨g, 0, none⟩ = some (.int .i64 m))
    {u1 u2 : TypeId} {v1 v2 : Value} (hc1 : w.cell? ⟨g1, 0, none⟩ = some (.iface u1 v1)) (hc2 : w.cell? ⟨g2, 0, none⟩ = some (.iface u2 v2)) (hj1 : ∀ ι : Emb, VRel ι (.iface u1 (.junk true)) (.iface u1 v1)) (hj2 : ∀ ι : Emb, VRel ι (.iface u2 (.junk true)) (.iface u2 v2))
    (ho : GoodOrc P orc) (ha : absArgs P opq fuel ts ds (((h0.set g (.cells [.int .i64 m] true)).set g1 (.cells [.iface u1 (.junk true)] true)).set g2 (.cells [.iface u2 (.junk true)] true)) = some (as, h)) (hr : acall orc (tbl P) f as h = some (.bool x, h')) :
    Calls P f vs w fun e w' => e = .returned (.bool x) ∧ Below w.heap.size w w' := by
  obtain ⟨ps0, hv, _⟩ := hw
  obtain ⟨ι, r, hro, hle⟩ := laid_rel hv hl (start_relW P.globals.size w) (fun b c hb => by rw [start_get] at hb; cases hb) (Emb.le_refl _)
  obtain ⟨r2, ro2⟩ := r.setVar hro hle hg hc (a := .int .i64 m) (by simp [VRel])
  obtain ⟨r3, ro3⟩ := r2.setVar ro2 hle hg1 hc1 (hj1 ι)
  obtain ⟨r4, ro4⟩ := r3.setVar ro3 hle hg2 hc2 (hj2 ι)
  obtain ⟨ι', r5, _, ro5, v⟩ := openArgs ht hok r4 ro4 ha
  have := calls_acall hm ho hb hr r5 v ro5
  simpa using this
end
end Go.Fs
end

section
/- Regions some of whose calls leave the heap as it is ('still'): their symbolic steps. -/
namespace Go.Fs
section
variable (call : Rec)

/-- What a call that leaves the heap comes to, in some of the heaps. -/
def StillOne : List AH → Nat → List AV → AV → Prop
  | [], _, _, _ => True
  | h :: hs, f, as, v => (∃ h', call f as (h.withLow h.n) = some (v, h') ∧ h'.n = h.n ∧ h.n ≤ h'.low) ∧ StillOne hs f as v
def Stills (hs : List AH) : List (Nat × Nat × Nat × List AV × AV) → Prop
  | [] => True
  | (lo, hi, f, as, v) :: sp => StillOne call ((hs.drop lo).take (hi + 1 - lo)) f as v ∧ Stills hs sp

variable (Q : AEx → List AV → AH → Prop) (st : List Fr)

def DrawS : List CD → List (Nat × Nat × CO × AV) → List (Nat × Nat × Nat × List AV × AV) → List AH → List AV → AH → Prop
  | [], pr, sp, hs, tm, h => Kept (hs ++ [h]) pr ∧ Stills call (hs ++ [h]) sp ∧ RetK call Q st .normal tm h
  | o :: os, pr, sp, hs, tm, h =>
    if o.wanted tm then
      (if o.still then (match o.op with
        | .call (.f f) args => ∃ v h', call f (args.map (CA.ev tm)) (h.withLow h.n) = some (v, h') ∧ h'.n = h.n ∧ h.n ≤ h'.low ∧ DrawS os pr (sp ++ [(o.lo, o.hi, f, args.map (CA.ev tm), v)]) hs (put tm o.dst v) h
        | _ => False)
      else ∃ v h', runOp call o.op tm h = some (v, h') ∧ DrawS os (if o.op.reads then pr ++ [(o.lo, o.hi, closeOp tm o.op, v)] else pr) sp (if o.op.quiet then hs else hs ++ [h]) (put tm o.dst v) h')
    else DrawS os pr sp (if o.calm then hs else hs ++ [h]) (put tm o.dst AV.undef) h

def DResS (r : Option (AV × AH)) (o : CD) (os : List CD) (pr : List (Nat × Nat × CO × AV)) (sp : List (Nat × Nat × Nat × List AV × AV)) (hs : List AH) (tm : List AV) (h : AH) : Prop :=
  ∃ v h', r = some (v, h') ∧ DrawS call Q st os (if o.op.reads then pr ++ [(o.lo, o.hi, closeOp tm o.op, v)] else pr) sp (if o.op.quiet then hs else hs ++ [h]) (put tm o.dst v) h'
def SResS (r : Option (AV × AH)) (dst : Option Nat) (lo hi f : Nat) (as : List AV) (os : List CD) (pr : List (Nat × Nat × CO × AV)) (sp : List (Nat × Nat × Nat × List AV × AV)) (hs : List AH) (tm : List AV) (h : AH) : Prop :=
  ∃ v h', r = some (v, h') ∧ h'.n = h.n ∧ h.n ≤ h'.low ∧ DrawS call Q st os pr (sp ++ [(lo, hi, f, as, v)]) hs (put tm dst v) h
end

section
variable {call : Rec} {Q : AEx → List AV → AH → Prop} {st : List Fr} {tm : List AV} {h : AH} {os : List CD} {pr : List (Nat × Nat × CO × AV)} {sp : List (Nat × Nat × Nat × List AV × AV)} {hs : List AH}

theorem stills_append {hs : List AH} {b : List (Nat × Nat × Nat × List AV × AV)} : ∀ (a : List (Nat × Nat × Nat × List AV × AV)), Stills call hs (a ++ b) → Stills call hs a ∧ Stills call hs b
  | [], h => ⟨trivial, h⟩
  | (_, _, _, _, _) :: a, ⟨h1, h2⟩ => ⟨⟨h1, (stills_append a h2).1⟩, (stills_append a h2).2⟩

theorem stillRun_call {f : Nat} {args : List CA} {tm : List AV} {h h' : AH} {v : AV} (h1 : call f (args.map (CA.ev tm)) (h.withLow h.n) = some (v, h')) (h2 : h'.n = h.n) (h3 : h.n ≤ h'.low) : stillRun call (.call (.f f) args) tm h = some v := by
  unfold stillRun
  simp only [effRun, CA.ev, List.nil_append, List.append_nil, h1]
  rw [if_pos ⟨h2, h3⟩]

theorem stillOne_all {o : CD} {f : Nat} {args : List CA} (ho : o.op = .call (.f f) args) {tm : List AV} {v : AV} : ∀ {hs : List AH}, StillOne call hs f (args.map (CA.ev tm)) v → hs.all (agrees call o tm v) = true
  | [], _ => rfl
  | h :: hs', ⟨⟨h', h1, h2, h3⟩, h4⟩ => by
    rw [List.all_cons, stillOne_all ho h4, Bool.and_true]
    unfold agrees calmRun
    rw [ho, if_neg (by simp [CO.quiet]), stillRun_call h1 h2 h3]
    exact AV.same_refl v

theorem runS_of : ∀ (os : List CD) (pr : List (Nat × Nat × CO × AV)) (sp : List (Nat × Nat × Nat × List AV × AV)) (hs : List AH) (tm : List AV) (h : AH), DrawS call Q st os pr sp hs tm h →
    ∃ rs' hs' tm' h', runT call os tm h = some (rs', hs', tm') ∧ hs'.getLast? = some h' ∧ RetK call Q st .normal tm' h' ∧ Kept (hs ++ hs') pr ∧ Stills call (hs ++ hs') sp ∧ steady call (hs ++ hs') os rs' = true
  | [], pr, sp, hs, tm, h, ⟨h1, h2, h3⟩ => ⟨[], [h], tm, h, rfl, rfl, h3, h1, h2, rfl⟩
  | o :: os, pr, sp, hs, tm, h, hk => by
    have hcat : ∀ (b : Bool) (hs' : List AH), (if b then hs else hs ++ [h]) ++ hs' = hs ++ (if b then hs' else h :: hs') := fun b hs' => by cases b <;> simp
    have hlast : ∀ (b : Bool) (hs' : List AH) (h' : AH), hs'.getLast? = some h' → (if b then hs' else h :: hs').getLast? = some h' := fun b hs' h' hl => by
      cases b with
      | true => exact hl
      | false =>
        cases hs' with
        | nil => cases hl
        | cons a l => simpa using hl
    unfold DrawS at hk
    split at hk
    · rename_i hw
      split at hk
      · rename_i hst
        split at hk
        · rename_i f args hop
          obtain ⟨v, h1, r1, r2, r3, hk⟩ := hk
          obtain ⟨rs', hs', tm', h', g1, g2, g3, g4, g6, g5⟩ := runS_of os _ _ _ _ _ hk
          obtain ⟨k1, k2, _⟩ := stills_append _ g6
          have hc : o.calm = true := by simp [CD.calm, hst]
          have hrun : calmRun call o tm h = some v := by
            unfold calmRun
            rw [hop, if_neg (by simp [CO.quiet]), stillRun_call r1 r2 r3]
          refine ⟨(tm, v, true) :: rs', hs', tm', h', ?_, g2, g3, g4, k1, ?_⟩
          · simp only [runT, hw, if_true, hc, hrun, Option.bind_some, g1, Option.map_some]
          · simp only [steady, hc, CD.looksIn, hst, Bool.true_or, Bool.and_self, Bool.not_true, Bool.false_or, Bool.and_eq_true, g5, and_true]
            exact stillOne_all hop k2
        · exact hk.elim
      · rename_i hst
        have hst : o.still = false := by simpa using hst
        have hcalm : o.calm = o.op.quiet := by simp [CD.calm, hst]
        have hlk : o.looksIn = o.op.reads := by simp [CD.looksIn, hst]
        obtain ⟨v, h1, hrun, hk⟩ := hk
        obtain ⟨rs', hs', tm', h', g1, g2, g3, g4, g6, g5⟩ := runS_of os _ _ _ _ _ hk
        rw [hcat] at g4 g5 g6
        by_cases hq : o.op.quiet = true
        · have hrun' : ∃ u, quietRun o.op tm h = some u ∧ (u, h) = (v, h1) := by
            unfold runOp at hrun
            rw [if_pos hq] at hrun
            exact Option.map_eq_some_iff.1 hrun
          obtain ⟨u, hu, he⟩ := hrun'
          cases he
          have hc : o.calm = true := hcalm.trans hq
          simp only [hq, if_true] at g4 g5 g6
          have hT : runT call (o :: os) tm h = some ((tm, v, true) :: rs', hs', tm') := by
            simp only [runT, hw, if_true, hc, calm_quiet hst hc, hu, Option.bind_some, g1, Option.map_some]
          by_cases hrd : o.op.reads = true
          · rw [if_pos hrd] at g4
            obtain ⟨k1, k2, _⟩ := kept_append _ g4
            refine ⟨_, hs', tm', h', hT, g2, g3, k1, g6, ?_⟩
            simp only [steady, hc, hlk, hrd, Bool.and_self, Bool.not_true, Bool.false_or, Bool.and_eq_true, g5, and_true]
            exact keptOne_all hst hc hrd k2
          · rw [if_neg hrd] at g4
            refine ⟨_, hs', tm', h', hT, g2, g3, g4, g6, ?_⟩
            simp only [steady, hlk, hrd, Bool.and_false, Bool.not_false, Bool.true_or, Bool.true_and, g5]
        · have hrd : o.op.reads = false := by
            cases ho : o.op <;> rw [ho] at hq <;> first | rfl | (exact absurd rfl hq)
          have hrun' : effRun call o.op tm h = some (v, h1) := by
            unfold runOp at hrun
            rwa [if_neg hq] at hrun
          have hc : ¬ o.calm = true := by rw [hcalm]; exact hq
          simp only [hq, hrd, Bool.false_eq_true, if_false] at g4 g5 g6
          refine ⟨(tm, v, true) :: rs', h :: hs', tm', h', ?_, ?_, g3, g4, g6, ?_⟩
          · simp only [runT, hw, if_true, hc, Bool.false_eq_true, if_false, hrun', Option.bind_some, g1, Option.map_some]
          · exact hlast false hs' h' g2
          · simp only [steady, hlk, hrd, Bool.and_false, Bool.not_false, Bool.true_or, Bool.true_and, g5]
    · rename_i hw
      obtain ⟨rs', hs', tm', h', g1, g2, g3, g4, g6, g5⟩ := runS_of os _ _ _ _ _ hk
      rw [hcat] at g4 g5 g6
      refine ⟨(tm, AV.undef, false) :: rs', if o.calm then hs' else h :: hs', tm', h', ?_, hlast _ hs' h' g2, g3, g4, g6, ?_⟩
      · simp only [runT, hw, Bool.false_eq_true, if_false, g1, Option.map_some]
      · simp only [steady, Bool.false_and, Bool.not_false, Bool.true_or, Bool.true_and, g5]

theorem CodeK_regionS (os : List CD) (hk : DrawS call Q st os [] [] [] tm h) : CodeK call Q (.regionD os) st tm h := by
  obtain ⟨rs', hs', tm', h', g1, g2, g3, _, _, g5⟩ := runS_of os [] [] [] tm h hk
  refine WP.regionD (tm' := tm') (h' := h') ?_ g3
  unfold runD
  simp only [List.nil_append] at g5
  simp only [g1, g5, if_true]
  rw [List.getLastD_eq_getLast?, g2]
  rfl

theorem DrawS_nil : DrawS call Q st [] pr sp hs tm h = (Kept (hs ++ [h]) pr ∧ Stills call (hs ++ [h]) sp ∧ RetK call Q st .normal tm h) := rfl
theorem DrawS_cons (dst : Option Nat) (op : CO) (lo hi : Nat) : DrawS call Q st (⟨⟨dst, op, none⟩, lo, hi, false⟩ :: os) pr sp hs tm h = DResS call Q st (runOp call op tm h) ⟨⟨dst, op, none⟩, lo, hi, false⟩ os pr sp hs tm h := rfl
theorem DrawS_still (dst : Option Nat) (f : Nat) (args : List CA) (lo hi : Nat) : DrawS call Q st (⟨⟨dst, .call (.f f) args, none⟩, lo, hi, true⟩ :: os) pr sp hs tm h = SResS call Q st (call f (args.map (CA.ev tm)) (h.withLow h.n)) dst lo hi f (args.map (CA.ev tm)) os pr sp hs tm h := rfl
theorem DResS_some (v : AV) (h' : AH) (o : CD) : DResS call Q st (some (v, h')) o os pr sp hs tm h = DrawS call Q st os (if o.op.reads then pr ++ [(o.lo, o.hi, closeOp tm o.op, v)] else pr) sp (if o.op.quiet then hs else hs ++ [h]) (put tm o.dst v) h' := by
  unfold DResS
  simp only [Option.some.injEq, Prod.mk.injEq]
  exact propext ⟨fun ⟨_, _, ⟨h1, h2⟩, h4⟩ => by subst h1 h2; exact h4, fun hk => ⟨_, _, ⟨rfl, rfl⟩, hk⟩⟩
/-- A call that hands the very heap back. -/
theorem SResS_same (v : AV) (dst : Option Nat) (lo hi f : Nat) (as : List AV) : SResS call Q st (some (v, h.withLow h.n)) dst lo hi f as os pr sp hs tm h = DrawS call Q st os pr (sp ++ [(lo, hi, f, as, v)]) hs (put tm dst v) h := by
  unfold SResS
  simp only [Option.some.injEq, Prod.mk.injEq]
  exact propext ⟨fun ⟨_, _, ⟨h1, h2⟩, _, _, h4⟩ => by subst h1 h2; exact h4, fun hk => ⟨_, _, ⟨rfl, rfl⟩, rfl, by simp, hk⟩⟩
/-- The same, its low mark told by another number. -/
theorem SResS_low {l : Nat} (hl : l = h.n) (v : AV) (dst : Option Nat) (lo hi f : Nat) (as : List AV) : SResS call Q st (some (v, h.withLow l)) dst lo hi f as os pr sp hs tm h = DrawS call Q st os pr (sp ++ [(lo, hi, f, as, v)]) hs (put tm dst v) h := by
  subst hl
  exact SResS_same v dst lo hi f as
theorem still_ex (v : AV) (h1 : AH) (P : AH → Prop) : (∃ h', some (v, h1) = some (v, h') ∧ P h') = P h1 := by
  simp only [Option.some.injEq, Prod.mk.injEq, true_and]
  exact propext ⟨fun ⟨_, e, hp⟩ => e ▸ hp, fun hp => ⟨_, rfl, hp⟩⟩
theorem DResS_ex {r : Option (AV × AH)} {o : CD} {R : AV → AH → Prop} (hr : ∃ v h', r = some (v, h') ∧ R v h')
    (hk : ∀ v h', R v h' → DrawS call Q st os (if o.op.reads then pr ++ [(o.lo, o.hi, closeOp tm o.op, v)] else pr) sp (if o.op.quiet then hs else hs ++ [h]) (put tm o.dst v) h') : DResS call Q st r o os pr sp hs tm h := by
  obtain ⟨v, h', h1, h2⟩ := hr
  exact ⟨v, h', h1, hk v h' h2⟩
theorem stillOne_cons {f : Nat} {as : List AV} {v : AV} (h1 : call f as (h.withLow h.n) = some (v, h.withLow h.n)) (h2 : StillOne call hs f as v) : StillOne call (h :: hs) f as v := ⟨⟨_, h1, rfl, by simp⟩, h2⟩
end
end Go.Fs
end

section
/- Steps of the symbolic walk that look at one operation alone. -/
namespace Go.Fs
section
variable {call : Rec} {Q : AEx → List AV → AH → Prop} {st : List Fr} {tm tm' : List AV} {h h' : AH} {v : AV} {os : List CR} {dst : Option Nat} {op : CO}

theorem K_seq {a b : CC} (k : CodeK call Q a (.seq b :: st) tm h) : CodeK call Q (.seq a b) st tm h := by rw [CodeK_seq]; exact k
theorem K_region (k : RunK call Q os st tm h) : CodeK call Q (.region os) st tm h := by rw [CodeK_region]; exact k
theorem K_skip (k : RetK call Q st .normal tm h) : CodeK call Q .skip st tm h := by rw [CodeK_skip]; exact k
theorem K_ret (k : RetK call Q st .ret tm h) : CodeK call Q .ret st tm h := by rw [CodeK_ret]; exact k
theorem K_exit {i : Nat} (k : RetK call Q st (.exit i) tm h) : CodeK call Q (.exit i) st tm h := by rw [CodeK_exit]; exact k
theorem K_block {i : Nat} {c : CC} (k : CodeK call Q c (.block i :: st) tm h) : CodeK call Q (.block i c) st tm h := by rw [CodeK_block]; exact k
theorem K_cond {c : CA} {x y : CC} (hv : c.ev tm = v) (k : CondK call Q v x y st tm h) : CodeK call Q (.cond c x y) st tm h := by rw [CodeK_cond, hv]; exact k
theorem C_true {x y : CC} (k : CodeK call Q x st tm h) : CondK call Q (.bool true) x y st tm h := k
theorem C_false {x y : CC} (k : CodeK call Q y st tm h) : CondK call Q (.bool false) x y st tm h := k
theorem R_nil (k : RetK call Q st .normal tm h) : RunK call Q [] st tm h := by rw [RunK_nil]; exact k
theorem R_cons (hr : runOp call op tm h = some (v, h')) (ht : put tm dst v = tm') (k : RunK call Q os st tm' h') : RunK call Q (⟨dst, op, none⟩ :: os) st tm h := by
  rw [RunK_cons, hr, ResK_some, ht]; exact k
theorem R_any {g : Option (Nat × Bool)} (hg : CR.wanted ⟨dst, op, g⟩ tm = true) (hr : runOp call op tm h = some (v, h')) (ht : put tm dst v = tm') (k : RunK call Q os st tm' h') : RunK call Q (⟨dst, op, g⟩ :: os) st tm h := by
  obtain ⟨a, b, h1, h2⟩ := k
  refine ⟨a, b, ?_, h2⟩
  simp only [runOps, hg, if_true, hr, Option.bind_some, ht]
  exact h1
theorem R_skip {j : Nat} {w : Bool} (hg : CR.wanted ⟨dst, op, some (j, w)⟩ tm = false) (ht : put tm dst AV.undef = tm') (k : RunK call Q os st tm' h) : RunK call Q (⟨dst, op, some (j, w)⟩ :: os) st tm h := by
  obtain ⟨a, b, h1, h2⟩ := k
  refine ⟨a, b, ?_, h2⟩
  simp only [runOps, hg, Bool.false_eq_true, if_false, ht]
  exact h1
/-- A call of which some facts are told. -/
theorem R_ex {r : Option (AV × AH)} {R : AV → AH → Prop} (hr : runOp call op tm h = r) (hx : ∃ v h', r = some (v, h') ∧ R v h') (k : ∀ v h', R v h' → RunK call Q os st (put tm dst v) h') : RunK call Q (⟨dst, op, none⟩ :: os) st tm h := by
  rw [RunK_cons, hr]
  exact ResK_ex hx k
theorem R_eq {r : Option (AV × AH)} (hr : runOp call op tm h = r) (he : r = some (v, h')) (ht : put tm dst v = tm') (k : RunK call Q os st tm' h') : RunK call Q (⟨dst, op, none⟩ :: os) st tm h := R_cons (hr.trans he) ht k
/-- Of the heap no more is kept than is told. -/
theorem R_heap (R : AH → Prop) (hR : R h) (hk : ∀ h', R h' → RunK call Q os st tm h') : RunK call Q os st tm h := hk h hR
theorem R_tm (ht : tm = tm') (k : RunK call Q os st tm' h) : RunK call Q os st tm h := ht ▸ k
theorem R_guard {j : Nat} {w : Bool} {g : AV} (hg : tm.getD j AV.undef = g) (k : GuardK call Q g w op dst os st tm h) : RunK call Q (⟨dst, op, some (j, w)⟩ :: os) st tm h := by rw [RunK_guard, hg]; exact k
theorem G_tt (hr : runOp call op tm h = some (v, h')) (ht : put tm dst v = tm') (k : RunK call Q os st tm' h') : GuardK call Q (.bool true) true op dst os st tm h := by rw [GuardK_tt, hr, ResK_some, ht]; exact k
theorem G_ff (hr : runOp call op tm h = some (v, h')) (ht : put tm dst v = tm') (k : RunK call Q os st tm' h') : GuardK call Q (.bool false) false op dst os st tm h := by rw [GuardK_ff, hr, ResK_some, ht]; exact k
theorem G_tf (ht : put tm dst AV.undef = tm') (k : RunK call Q os st tm' h) : GuardK call Q (.bool true) false op dst os st tm h := by rw [GuardK_tf, ht]; exact k
theorem G_ft (ht : put tm dst AV.undef = tm') (k : RunK call Q os st tm' h) : GuardK call Q (.bool false) true op dst os st tm h := by rw [GuardK_ft, ht]; exact k
theorem G_u {w : Bool} (ht : put tm dst AV.undef = tm') (k : RunK call Q os st tm' h) : GuardK call Q AV.undef w op dst os st tm h := by rw [GuardK_u, ht]; exact k
theorem T_nil {e : AEx} (k : Q e tm h) : RetK call Q [] e tm h := k
theorem T_seq {c : CC} (k : CodeK call Q c st tm h) : RetK call Q (.seq c :: st) .normal tm h := k
theorem T_seq_exit {c : CC} {i : Nat} (k : RetK call Q st (.exit i) tm h) : RetK call Q (.seq c :: st) (.exit i) tm h := k
theorem T_seq_ret {c : CC} (k : RetK call Q st .ret tm h) : RetK call Q (.seq c :: st) .ret tm h := k
theorem T_block {i : Nat} (k : RetK call Q st .normal tm h) : RetK call Q (.block i :: st) .normal tm h := k
theorem T_block_ret {i : Nat} (k : RetK call Q st .ret tm h) : RetK call Q (.block i :: st) .ret tm h := k
theorem T_block_exit {i : Nat} (k : RetK call Q st .normal tm h) : RetK call Q (.block i :: st) (.exit i) tm h := by rw [RetK_block_exit]; exact k
theorem T_block_exit_ne {i j : Nat} (hn : (i == j) = false) (k : RetK call Q st (.exit i) tm h) : RetK call Q (.block j :: st) (.exit i) tm h := by rw [RetK_block_exit_ne _ _ hn]; exact k
theorem T_inv {J : List AV → AH → Prop} (k : J tm h) : RetK call Q (.inv J :: st) .normal tm h := k
theorem T_inv_exit {J : List AV → AH → Prop} {i : Nat} (k : RetK call Q st (.exit i) tm h) : RetK call Q (.inv J :: st) (.exit i) tm h := k
theorem T_inv_ret {J : List AV → AH → Prop} (k : RetK call Q st .ret tm h) : RetK call Q (.inv J :: st) .ret tm h := k

/-- A loop's first round. -/
theorem K_unroll {c : CC} (k : CodeK call Q c (.inv (fun tm h => CodeK call Q (.loop c) st tm h) :: st) tm h) : CodeK call Q (.loop c) st tm h := by
  obtain ⟨e, tm', h', h1, h2⟩ := k
  cases e with
  | normal =>
    obtain ⟨e2, tm2, h2', h3, h4⟩ := (h2 : CodeK call Q (.loop c) st tm' h')
    refine ⟨e2, tm2, h2', ?_, h4⟩
    simp only [runW] at h3 ⊢
    rw [iterW_eq, h1]
    exact h3
  | exit id =>
    refine ⟨_, _, _, ?_, h2⟩
    simp only [runW]
    rw [iterW_eq, h1]
  | ret =>
    refine ⟨_, _, _, ?_, h2⟩
    simp only [runW]
    rw [iterW_eq, h1]

/-! Regions whose order is open -/
variable {ds : List CD} {pr pr' : List (Nat × Nat × CO × AV)} {sp : List (Nat × Nat × Nat × List AV × AV)} {hs hs' : List AH} {lo hi : Nat}
theorem K_regionS (k : DrawS call Q st ds [] [] [] tm h) : CodeK call Q (.regionD ds) st tm h := CodeK_regionS _ k
theorem D_nil (k1 : Kept (hs ++ [h]) pr) (k2 : Stills call (hs ++ [h]) sp) (k : RetK call Q st .normal tm h) : DrawS call Q st [] pr sp hs tm h := ⟨k1, k2, k⟩
theorem D_cons (hr : runOp call op tm h = some (v, h')) (ht : put tm dst v = tm') (hp : (if op.reads then pr ++ [(lo, hi, closeOp tm op, v)] else pr) = pr') (hh : (if op.quiet then hs else hs ++ [h]) = hs') (k : DrawS call Q st ds pr' sp hs' tm' h') :
    DrawS call Q st (⟨⟨dst, op, none⟩, lo, hi, false⟩ :: ds) pr sp hs tm h := by
  rw [DrawS_cons, hr, DResS_some, ht, hp, hh]; exact k
/-- The same, of an operation that reads nothing and writes nothing. -/
theorem D_quiet (h1 : op.reads = false) (h2 : op.quiet = true) (hr : runOp call op tm h = some (v, h')) (ht : put tm dst v = tm') (k : DrawS call Q st ds pr sp hs tm' h') :
    DrawS call Q st (⟨⟨dst, op, none⟩, lo, hi, false⟩ :: ds) pr sp hs tm h := D_cons hr ht (by rw [h1]; rfl) (by rw [h2]; rfl) k
theorem D_ex {r : Option (AV × AH)} {R : AV → AH → Prop} (h1 : op.reads = false) (h2 : op.quiet = false) (hr : runOp call op tm h = r) (hx : ∃ v h', r = some (v, h') ∧ R v h') (k : ∀ v h', R v h' → DrawS call Q st ds pr sp (hs ++ [h]) (put tm dst v) h') :
    DrawS call Q st (⟨⟨dst, op, none⟩, lo, hi, false⟩ :: ds) pr sp hs tm h := by
  obtain ⟨v, h', e, hR⟩ := hx
  exact D_cons (hr.trans e) rfl (by rw [h1]; rfl) (by rw [h2]; rfl) (k v h' hR)
theorem D_still {f : Nat} {args : List CA} {as : List AV} (ha : args.map (CA.ev tm) = as) (hr : call f as (h.withLow h.n) = some (v, h')) (hn : h'.n = h.n) (hl : h.n ≤ h'.low) (ht : put tm dst v = tm') (k : DrawS call Q st ds pr (sp ++ [(lo, hi, f, as, v)]) hs tm' h) :
    DrawS call Q st (⟨⟨dst, .call (.f f) args, none⟩, lo, hi, true⟩ :: ds) pr sp hs tm h := by
  rw [DrawS_still, ha]
  exact ⟨v, h', hr, hn, hl, by rw [ht]; exact k⟩
theorem D_tm (ht : tm = tm') (k : DrawS call Q st ds pr sp hs tm' h) : DrawS call Q st ds pr sp hs tm h := ht ▸ k
theorem D_heap (R : AH → Prop) (hR : R h) (hk : ∀ h', R h' → DrawS call Q st ds [] [] [] tm h') : DrawS call Q st ds [] [] [] tm h := hk h hR
theorem D_wanted {j : Nat} {w : Bool} {s : Bool} (hg : tm.getD j AV.undef = .bool w) (k : DrawS call Q st (⟨⟨dst, op, none⟩, lo, hi, s⟩ :: ds) pr sp hs tm h) : DrawS call Q st (⟨⟨dst, op, some (j, w)⟩, lo, hi, s⟩ :: ds) pr sp hs tm h := by
  have e1 : CR.wanted ⟨dst, op, some (j, w)⟩ tm = true := by unfold CR.wanted; simp only [hg]; simp
  have e2 : CR.wanted ⟨dst, op, none⟩ tm = true := rfl
  unfold DrawS at k ⊢
  simp only [e1, e2, if_true] at k ⊢
  exact k
theorem D_not {j : Nat} {w : Bool} (hg : tm.getD j AV.undef = .bool (!w)) (hh : (if op.quiet then hs else hs ++ [h]) = hs') (ht : put tm dst AV.undef = tm') (k : DrawS call Q st ds pr sp hs' tm' h) : DrawS call Q st (⟨⟨dst, op, some (j, w)⟩, lo, hi, false⟩ :: ds) pr sp hs tm h := by
  have e1 : CR.wanted ⟨dst, op, some (j, w)⟩ tm = false := by unfold CR.wanted; simp only [hg]; cases w <;> rfl
  have e2 : CD.calm ⟨⟨dst, op, some (j, w)⟩, lo, hi, false⟩ = op.quiet := by simp [CD.calm]
  unfold DrawS
  simp only [e1, e2, Bool.false_eq_true, if_false, hh, ht]
  exact k
end
end Go.Fs
end

section
/- The steps' equations, bound together: one name for them all. -/
namespace Go.Fs
set_option linter.defProp false
noncomputable def opsB := (And.intro (And.intro (And.intro (And.intro (And.intro (And.intro @Go.Fs.op_lenS (And.intro @Go.Fs.lenSV_str @Go.Fs.op_lenV)) (And.intro @Go.Fs.lenV_slice (And.intro @Go.Fs.op_toInt @Go.Fs.toIntV_int))) (And.intro (And.intro @Go.Fs.op_iaddrS (And.intro @Nat.add_assoc @Nat.le_min)) (And.intro @Nat.le_add_right (And.intro @Nat.min_self @beq_self_eq_true.{0})))) (And.intro (And.intro (And.intro @bne_self_eq_false.{0} (And.intro @Bool.not_true @Bool.not_false)) (And.intro @decide_true (And.intro @decide_false @decide_eq_true_eq))) (And.intro (And.intro @Bool.and_eq_true (And.intro @List.mapM_cons.{0, 0, 0} @List.mapM_nil.{0, 0, 0})) (And.intro @Option.bind_eq_bind.{0} (And.intro @Option.pure_def.{0} @Go.Fs.aeqK_agg))))) (And.intro (And.intro (And.intro (And.intro @Go.Fs.aeqK_scal (And.intro @Go.Fs.leavesK_nil @Go.Fs.leavesK_cons)) (And.intro @Go.Fs.leafK_i (And.intro @Go.Fs.leafK_b @Go.Fs.leafK_s))) (And.intro (And.intro @Go.Fs.kept_load (And.intro @Go.Fs.op_mv @Go.Fs.op_un)) (And.intro @Go.Fs.op_bin (And.intro @Go.Fs.op_load @Go.Fs.loadV_ptr)))) (And.intro (And.intro (And.intro @Go.Fs.op_faddr (And.intro @Go.Fs.faddrV_ptr @Go.Fs.op_pick)) (And.intro @Go.Fs.pickV_true (And.intro @Go.Fs.pickV_false @Go.Fs.pickV_bool))) (And.intro (And.intro @Go.Fs.pickV_same (And.intro @Go.Fs.op_box @Go.Fs.boxV_agg)) (And.intro (And.intro @Go.Fs.op_call @Go.Fs.op_build) (And.intro @Go.Fs.op_ext @Go.Fs.op_alloc)))))) (And.intro (And.intro (And.intro (And.intro (And.intro @Go.Fs.op_store (And.intro @Go.Fs.storeV_ptr @List.all_cons.{0})) (And.intro @List.all_nil.{0} (And.intro @Bool.and_self @Bool.and_true))) (And.intro (And.intro @Bool.true_and (And.intro @List.getD_cons_zero.{0} @List.getD_cons_succ.{0})) (And.intro @Option.map_some.{0, 0} (And.intro @Option.bind_some.{0, 0} @List.map_cons.{0, 0})))) (And.intro (And.intro (And.intro @List.map_nil.{0, 0} (And.intro @Go.Fs.Hp.n_withLow @Go.Fs.Hp.n_push)) (And.intro @Go.Fs.Hp.n_set (And.intro @Go.Fs.Hp.low_withLow @Go.Fs.Hp.low_push))) (And.intro (And.intro @Go.Fs.Hp.low_set (And.intro @Go.Fs.Hp.get_push @Go.Fs.Hp.get_set)) (And.intro (And.intro @Go.Fs.Hp.get_withLow @Bool.false_eq_true) (And.intro @if_false.{1} @if_true.{1}))))) (And.intro (And.intro (And.intro (And.intro @List.getElem?_cons_zero.{0} (And.intro @List.getElem?_cons_succ.{0} @Nat.zero_add)) (And.intro @Nat.add_zero (And.intro @List.length_cons.{0} @List.length_nil.{0}))) (And.intro (And.intro @List.take_succ_cons.{0} (And.intro @List.take_zero.{0} @List.drop_zero.{0})) (And.intro @List.drop_succ_cons.{0} (And.intro @List.cons_append.{0} @List.nil_append.{0})))) (And.intro (And.intro (And.intro @List.append_nil.{0} (And.intro @and_true @true_and)) (And.intro @and_self (And.intro @or_true @true_or))) (And.intro (And.intro @cond_true.{1} (And.intro @cond_false.{1} @Nat.le_refl)) (And.intro (And.intro @Nat.add_eq_left @Nat.left_eq_add) (And.intro @Nat.add_right_cancel_iff @Nat.add_left_cancel_iff)))))))
noncomputable def ctlB := (And.intro (And.intro (And.intro (And.intro (And.intro @Go.Fs.RetK_inv @Go.Fs.RetK_inv_exit) (And.intro @Go.Fs.RetK_inv_ret (And.intro @Go.Fs.DrawK_nil @Go.Fs.DrawK_cons))) (And.intro (And.intro @Go.Fs.DrawK_guard @Go.Fs.DResK_some) (And.intro @Go.Fs.DGuardK_tt (And.intro @Go.Fs.DGuardK_ff @Go.Fs.DGuardK_tf)))) (And.intro (And.intro (And.intro @Go.Fs.DGuardK_ft @Go.Fs.DGuardK_u) (And.intro @Go.Fs.CodeK_seq (And.intro @Go.Fs.CodeK_region @Go.Fs.CodeK_skip))) (And.intro (And.intro @Go.Fs.CodeK_ret @Go.Fs.CodeK_exit) (And.intro @Go.Fs.CodeK_cond (And.intro @Go.Fs.CodeK_block @Go.Fs.CondK_true))))) (And.intro (And.intro (And.intro (And.intro @Go.Fs.CondK_false @Go.Fs.RunK_cons) (And.intro @Go.Fs.RunK_nil (And.intro @Go.Fs.RunK_guard @Go.Fs.GuardK_tt))) (And.intro (And.intro @Go.Fs.GuardK_ff @Go.Fs.GuardK_tf) (And.intro @Go.Fs.GuardK_ft (And.intro @Go.Fs.GuardK_u @Go.Fs.ResK_some)))) (And.intro (And.intro (And.intro @Go.Fs.RetK_nil @Go.Fs.RetK_seq) (And.intro @Go.Fs.RetK_seq_exit (And.intro @Go.Fs.RetK_seq_ret @Go.Fs.RetK_block))) (And.intro (And.intro @Go.Fs.RetK_block_ret @Go.Fs.RetK_block_exit) (And.intro @Go.Fs.RetK_block_exit_ne (And.intro @List.set_cons_zero.{0} @List.set_cons_succ.{0}))))))
noncomputable def fsEv := And.intro (And.intro @List.getD_cons_zero.{0} @List.getD_cons_succ.{0}) (And.intro (And.intro @Go.Fs.tmset_self @Go.Fs.tmset_ne) @List.length_set.{0})
noncomputable def fsPut := And.intro @List.set_cons_succ.{0} @List.set_cons_zero.{0}
noncomputable def fsAstr := And.intro @astr.eq_1 (And.intro @astr.eq_2 (And.intro @astr.eq_3 (And.intro @astr.eq_4 (And.intro @astr.eq_5 (And.intro @astr.eq_6 @astr.eq_7)))))
noncomputable def fsReps := And.intro @reps.eq_1 @reps.eq_2
noncomputable def fsTm := And.intro @tmset_self (And.intro @tmset_ne @List.length_set.{0})
/-- A step that asks for nothing: what must be shown is another thing. -/
class Red (A : Prop) (B : outParam Prop) : Prop where
  to : B → A
section
variable {call : Rec} {Q : AEx → List AV → AH → Prop} {st : List Fr} {tm tm' : List AV} {h h' : AH} {v : AV} {os : List CR} {dst : Option Nat} {op : CO}
instance {a b : CC} : Red (CodeK call Q (.seq a b) st tm h) (CodeK call Q a (.seq b :: st) tm h) := ⟨K_seq⟩
instance : Red (CodeK call Q (.region os) st tm h) (RunK call Q os st tm h) := ⟨K_region⟩
instance : Red (RunK call Q [] st tm h) (RetK call Q st .normal tm h) := ⟨R_nil⟩
instance {c : CC} : Red (RetK call Q (.seq c :: st) .normal tm h) (CodeK call Q c st tm h) := ⟨T_seq⟩
instance {x y : CC} : Red (CondK call Q (.bool true) x y st tm h) (CodeK call Q x st tm h) := ⟨C_true⟩
instance {x y : CC} : Red (CondK call Q (.bool false) x y st tm h) (CodeK call Q y st tm h) := ⟨C_false⟩
instance : Red (CodeK call Q .skip st tm h) (RetK call Q st .normal tm h) := ⟨K_skip⟩
instance {i : Nat} {c : CC} : Red (CodeK call Q (.block i c) st tm h) (CodeK call Q c (.block i :: st) tm h) := ⟨K_block⟩
instance : Red (CodeK call Q .ret st tm h) (RetK call Q st .ret tm h) := ⟨K_ret⟩
instance {i : Nat} : Red (CodeK call Q (.exit i) st tm h) (RetK call Q st (.exit i) tm h) := ⟨K_exit⟩
instance {i : Nat} : Red (RetK call Q (.block i :: st) .normal tm h) (RetK call Q st .normal tm h) := ⟨T_block⟩
instance {i : Nat} : Red (RetK call Q (.block i :: st) (.exit i) tm h) (RetK call Q st .normal tm h) := ⟨T_block_exit⟩
instance {i : Nat} : Red (RetK call Q (.block i :: st) .ret tm h) (RetK call Q st .ret tm h) := ⟨T_block_ret⟩
instance {c : CC} {i : Nat} : Red (RetK call Q (.seq c :: st) (.exit i) tm h) (RetK call Q st (.exit i) tm h) := ⟨T_seq_exit⟩
instance {c : CC} : Red (RetK call Q (.seq c :: st) .ret tm h) (RetK call Q st .ret tm h) := ⟨T_seq_ret⟩
instance {J : List AV → AH → Prop} : Red (RetK call Q (.inv J :: st) .normal tm h) (J tm h) := ⟨T_inv⟩
instance {J : List AV → AH → Prop} {i : Nat} : Red (RetK call Q (.inv J :: st) (.exit i) tm h) (RetK call Q st (.exit i) tm h) := ⟨T_inv_exit⟩
instance {J : List AV → AH → Prop} : Red (RetK call Q (.inv J :: st) .ret tm h) (RetK call Q st .ret tm h) := ⟨T_inv_ret⟩
instance {e : AEx} : Red (RetK call Q [] e tm h) (Q e tm h) := ⟨T_nil⟩
/-! Steps that ask for something: the facts of the place ('fct') show it. -/
theorem A_any {g : Option (Nat × Bool)} (hg : CR.wanted ⟨dst, op, g⟩ tm = true := by (simp only [CR.wanted, CA.ev, fsEv, Nat.reduceBEq, Nat.reduceLT, fct]; first | done | (with_unfolding_all exact rfl))) (hr : runOp call op tm h = some (v, h') := by (simp (maxDischargeDepth := 12) only [opsB, Nat.reduceEqDiff, Nat.reduceBEq, Nat.reduceBNe, Int.reduceBEq, Int.reduceBNe, Int.reduceLT, Int.reduceLE, Int.reduceEq, AV.one, AV.cells, CA.ev, abin, aint, aun, isShift, readVar, readCell, readCells, writeCells, fillA, reduceIte, Nat.reduceAdd, Nat.reduceSub, Nat.reduceLT, Nat.reduceLeDiff, resAll, resOne, AV.under, AV.unders, cut, fsEv, Int.reduceToNat, fct]; (first | done | with_reducible rfl))) (ht : put tm dst v = tm' := by (simp only [put, fsPut]; (first | done | with_reducible rfl))) (k : RunK call Q os st tm' h') : RunK call Q (⟨dst, op, g⟩ :: os) st tm h := R_any hg hr ht k
theorem A_skip {j : Nat} {w : Bool} (hg : CR.wanted ⟨dst, op, some (j, w)⟩ tm = false := by (simp only [CR.wanted, CA.ev, fsEv, Nat.reduceBEq, Nat.reduceLT, fct]; first | done | (with_unfolding_all exact rfl))) (ht : put tm dst AV.undef = tm' := by (simp only [put, fsPut]; (first | done | with_reducible rfl))) (k : RunK call Q os st tm' h) : RunK call Q (⟨dst, op, some (j, w)⟩ :: os) st tm h := R_skip hg ht k
theorem A_cond {c : CA} {x y : CC} (hv : c.ev tm = v := by (simp only [CA.ev, fsEv, Nat.reduceBEq, Nat.reduceLT, fct]; (first | done | with_reducible rfl))) (k : CondK call Q v x y st tm h) : CodeK call Q (.cond c x y) st tm h := K_cond hv k
theorem A_exne {i j : Nat} (hn : (i == j) = false := by decide) (k : RetK call Q st (.exit i) tm h) : RetK call Q (.block j :: st) (.exit i) tm h := T_block_exit_ne hn k
variable {ds : List CD} {pr pr' : List (Nat × Nat × CO × AV)} {sp : List (Nat × Nat × Nat × List AV × AV)} {hs hs' : List AH} {lo hi : Nat}
instance : Red (CodeK call Q (.regionD ds) st tm h) (DrawS call Q st ds [] [] [] tm h) := ⟨K_regionS⟩
theorem A_dnil (k1 : Kept (hs ++ [h]) pr := by (first | exact trivial | simp only [opsB, Nat.reduceEqDiff, Nat.reduceBEq, Nat.reduceBNe, Int.reduceBEq, Int.reduceBNe, Int.reduceLT, Int.reduceLE, Int.reduceEq, AV.one, AV.cells, CA.ev, abin, aint, aun, isShift, readVar, readCell, readCells, writeCells, fillA, reduceIte, Nat.reduceAdd, Nat.reduceSub, Nat.reduceLT, Nat.reduceLeDiff, resAll, resOne, AV.under, AV.unders, cut, fsEv, Kept, KeptOne, Stills, StillOne, List.drop_succ_cons, List.take_succ_cons, List.drop_nil, List.take_nil, kept_load, fct])) (k2 : Stills call (hs ++ [h]) sp := by (first | exact trivial | simp only [opsB, Nat.reduceEqDiff, Nat.reduceBEq, Nat.reduceBNe, Int.reduceBEq, Int.reduceBNe, Int.reduceLT, Int.reduceLE, Int.reduceEq, AV.one, AV.cells, CA.ev, abin, aint, aun, isShift, readVar, readCell, readCells, writeCells, fillA, reduceIte, Nat.reduceAdd, Nat.reduceSub, Nat.reduceLT, Nat.reduceLeDiff, resAll, resOne, AV.under, AV.unders, cut, fsEv, Kept, KeptOne, Stills, StillOne, List.drop_succ_cons, List.take_succ_cons, List.drop_nil, List.take_nil, kept_load, fct])) (k : RetK call Q st .normal tm h) : DrawS call Q st [] pr sp hs tm h := D_nil k1 k2 k
theorem A_dcons (hr : runOp call op tm h = some (v, h') := by (simp (maxDischargeDepth := 12) only [opsB, Nat.reduceEqDiff, Nat.reduceBEq, Nat.reduceBNe, Int.reduceBEq, Int.reduceBNe, Int.reduceLT, Int.reduceLE, Int.reduceEq, AV.one, AV.cells, CA.ev, abin, aint, aun, isShift, readVar, readCell, readCells, writeCells, fillA, reduceIte, Nat.reduceAdd, Nat.reduceSub, Nat.reduceLT, Nat.reduceLeDiff, resAll, resOne, AV.under, AV.unders, cut, fsEv, Int.reduceToNat, fct]; (first | done | with_reducible rfl))) (ht : put tm dst v = tm' := by (simp only [put, fsPut]; (first | done | with_reducible rfl))) (hp : (if op.reads then pr ++ [(lo, hi, closeOp tm op, v)] else pr) = pr' := by (simp only [CO.reads, closeOp, CA.ev, fsEv, Nat.reduceBEq, Nat.reduceLT, List.nil_append, List.cons_append, if_true, if_false, reduceIte, Bool.false_eq_true, fct]; (first | done | with_reducible rfl))) (hh : (if op.quiet then hs else hs ++ [h]) = hs' := by (simp only [CO.quiet, List.nil_append, List.cons_append, if_true, if_false, reduceIte, Bool.false_eq_true]; (first | done | with_reducible rfl))) (k : DrawS call Q st ds pr' sp hs' tm' h') :
    DrawS call Q st (⟨⟨dst, op, none⟩, lo, hi, false⟩ :: ds) pr sp hs tm h := D_cons hr ht hp hh k
theorem A_dstill {f : Nat} {args : List CA} {as : List AV} (ha : args.map (CA.ev tm) = as := by (simp only [List.map_cons, List.map_nil, CA.ev, fsEv, Nat.reduceBEq, Nat.reduceLT, fct]; (first | done | with_reducible rfl))) (hr : call f as (h.withLow h.n) = some (v, h') := by (simp (maxDischargeDepth := 12) only [opsB, Nat.reduceEqDiff, Nat.reduceBEq, Nat.reduceBNe, Int.reduceBEq, Int.reduceBNe, Int.reduceLT, Int.reduceLE, Int.reduceEq, AV.one, AV.cells, CA.ev, abin, aint, aun, isShift, readVar, readCell, readCells, writeCells, fillA, reduceIte, Nat.reduceAdd, Nat.reduceSub, Nat.reduceLT, Nat.reduceLeDiff, resAll, resOne, AV.under, AV.unders, cut, fsEv, Int.reduceToNat, fct]; (first | done | with_reducible rfl))) (hn : h'.n = h.n := by (simp only [Hp.n_withLow, Hp.low_withLow, Hp.n_set, Hp.n_push, Nat.le_refl])) (hl : h.n ≤ h'.low := by (simp only [Hp.n_withLow, Hp.low_withLow, Hp.n_set, Hp.n_push, Nat.le_refl])) (ht : put tm dst v = tm' := by (simp only [put, fsPut]; (first | done | with_reducible rfl))) (k : DrawS call Q st ds pr (sp ++ [(lo, hi, f, as, v)]) hs tm' h) :
    DrawS call Q st (⟨⟨dst, .call (.f f) args, none⟩, lo, hi, true⟩ :: ds) pr sp hs tm h := D_still ha hr hn hl ht k
theorem A_dwanted {j : Nat} {w : Bool} {s : Bool} (hg : tm.getD j AV.undef = .bool w := by (simp only [CA.ev, fsEv, Nat.reduceBEq, Nat.reduceLT, fct]; (first | done | with_reducible rfl))) (k : DrawS call Q st (⟨⟨dst, op, none⟩, lo, hi, s⟩ :: ds) pr sp hs tm h) : DrawS call Q st (⟨⟨dst, op, some (j, w)⟩, lo, hi, s⟩ :: ds) pr sp hs tm h := D_wanted hg k
end
end Go.Fs
end

section
/- Words with blanks between them, cut at the blanks, are the words. -/
namespace Go.Fs.Plain
open Go

theorem index_cons_ne {b : UInt8} {l : List UInt8} (h : b ≠ 32) : Lib.index (b :: l) [32] = if Lib.index l [32] == -1 then -1 else Lib.index l [32] + 1 := by
  have hp : ([32] : List UInt8).isPrefixOf (b :: l) = false := by simp [List.isPrefixOf, Ne.symm h]
  rw [Lib.index, hp]; simp
theorem index_cons_eq {l : List UInt8} : Lib.index (32 :: l) [32] = 0 := by rw [Lib.index]; simp [List.isPrefixOf]
theorem splitK_nil (k : Nat) : Lib.splitK [32] 0 k [] = [[]] := by cases k <;> simp [Lib.splitK, Lib.index]
theorem splitK_ne_nil (k : Nat) (s : List UInt8) : Lib.splitK [32] 0 k s ≠ [] := by
  cases k with
  | zero => simp [Lib.splitK]
  | succ k => unfold Lib.splitK; split <;> simp
/-- A byte put ahead of the first piece. -/
def putB (b : UInt8) : List (List UInt8) → List (List UInt8)
  | [] => [[b]]
  | x :: r => (b :: x) :: r
theorem splitK_cons_ne {b : UInt8} (h : b ≠ 32) (k : Nat) (l : List UInt8) : Lib.splitK [32] 0 k (b :: l) = putB b (Lib.splitK [32] 0 k l) := by
  cases k with
  | zero => rfl
  | succ k =>
    unfold Lib.splitK
    rw [index_cons_ne h]
    by_cases hm : Lib.index l [32] = -1
    · simp [hm, putB]
    · have hge := Lib.index_ge l [32]
      obtain ⟨j, hj⟩ : ∃ j : Nat, Lib.index l [32] = j := ⟨(Lib.index l [32]).toNat, by omega⟩
      have e1 : ¬ ((j : Int) == -1) = true := by rw [beq_iff_eq]; omega
      have e2 : ¬ (((j : Int) + 1) == -1) = true := by rw [beq_iff_eq]; omega
      rw [hj, if_neg e1, if_neg e1, if_neg e2]
      have e3 : ((j : Int) + 1).toNat = j + 1 := by omega
      simp [e3, putB]
theorem splitK_cons_eq (k : Nat) (l : List UInt8) : Lib.splitK [32] 0 (k + 1) (32 :: l) = [] :: Lib.splitK [32] 0 k l := by
  rw [Lib.splitK, index_cons_eq]
  simp
theorem split_nil : Lib.split [] [32] = [[]] := by unfold Lib.split; exact splitK_nil _
theorem split_cons_ne {b : UInt8} (h : b ≠ 32) (l : List UInt8) : Lib.split (b :: l) [32] = putB b (Lib.split l [32]) := by
  unfold Lib.split
  rw [Lib.count_cons_ne b 32 l h, splitK_cons_ne h]
theorem split_cons_eq (l : List UInt8) : Lib.split (32 :: l) [32] = [] :: Lib.split l [32] := by
  unfold Lib.split
  rw [Lib.count_cons_eq, Nat.add_comm, splitK_cons_eq]
theorem split_app {x : List UInt8} (hx : ∀ b ∈ x, b ≠ 32) (s : List UInt8) : Lib.split (x ++ 32 :: s) [32] = x :: Lib.split s [32] := by
  induction x with
  | nil => exact split_cons_eq s
  | cons b x ih => rw [List.cons_append, split_cons_ne (hx b (by simp)), ih fun c hc => hx c (by simp [hc])]; rfl
theorem split_word {x : List UInt8} (hx : ∀ b ∈ x, b ≠ 32) : Lib.split x [32] = [x] := by
  induction x with
  | nil => exact split_nil
  | cons b x ih => rw [split_cons_ne (hx b (by simp)), ih fun c hc => hx c (by simp [hc])]; rfl
theorem join_two (x y : List UInt8) (r : List (List UInt8)) : Lib.join (x :: y :: r) [32] = x ++ 32 :: Lib.join (y :: r) [32] := by
  rw [Lib.join_cons, Lib.join_cons]
  simp [Lib.joinTail]
theorem split_join : ∀ {W : List (List UInt8)}, W ≠ [] → (∀ x ∈ W, ∀ b ∈ x, b ≠ 32) → Lib.split (Lib.join W [32]) [32] = W
  | [], h, _ => absurd rfl h
  | [x], _, hx => by rw [Lib.join_one]; exact split_word (hx x (by simp))
  | x :: y :: r, _, hx => by
    rw [join_two, split_app (hx x (by simp)), split_join (by simp) fun z hz => hx z (by simp [hz])]
theorem split_len (s : List UInt8) : (Lib.split s [32]).length ≤ s.length + 1 ∧ ∀ x ∈ Lib.split s [32], x.length ≤ s.length := by
  induction s with
  | nil => rw [split_nil]; simp
  | cons b l ih =>
    by_cases h : b = 32
    · subst h
      rw [split_cons_eq]
      refine ⟨by simp; exact ih.1, fun x hx => ?_⟩
      rcases List.mem_cons.1 hx with rfl | hx
      · simp
      · have := ih.2 x hx; simp; omega
    · rw [split_cons_ne h]
      generalize Lib.split l [32] = S at *
      cases S with
      | nil => simp [putB]
      | cons y r =>
        refine ⟨by have := ih.1; simp [putB] at this ⊢; omega, fun x hx => ?_⟩
        rcases List.mem_cons.1 hx with rfl | hx
        · have := ih.2 y (by simp); simp; omega
        · have := ih.2 x (by simp [hx]); simp; omega
end Go.Fs.Plain
end

section
/- Bits. -/
namespace Go.Fs
theorem nat_and_not_one (x : Nat) (k : Nat) (hx : x < 2 ^ (k + 1)) : x &&& (2 ^ (k + 1) - 2) = 2 * (x / 2) := by
  apply Nat.eq_of_testBit_eq
  intro i
  rw [Nat.testBit_and]
  have e : 2 ^ (k + 1) - 2 = 2 * (2 ^ k - 1) := by rw [Nat.pow_succ]; omega
  rw [e]
  cases i with
  | zero => simp
  | succ i =>
    rw [Nat.testBit_succ (x := 2 * (2 ^ k - 1)), Nat.testBit_succ (x := 2 * (x / 2))]
    rw [Nat.mul_div_cancel_left _ (by omega), Nat.mul_div_cancel_left _ (by omega), Nat.testBit_two_pow_sub_one, Nat.testBit_div_two]
    by_cases h : i < k
    · simp [h]
    · have : x.testBit (i + 1) = false := Nat.testBit_lt_two_pow (Nat.lt_of_lt_of_le hx (Nat.pow_le_pow_right (by omega) (by omega)))
      simp [this]

theorem wrap_i64 {n : Int} (h1 : -9223372036854775808 ≤ n) (h2 : n ≤ 9223372036854775807) : IntKind.wrap .i64 n = n := by
  have e3 : IntKind.bits .i64 = 64 := rfl
  have e4 : IntKind.signed .i64 = true := rfl
  unfold IntKind.wrap
  simp only [e3, e4, Bool.true_and]
  have hp : (2 : Int) ^ 64 = 18446744073709551616 := by decide
  have hq : (2 : Int) ^ (64 - 1) = 9223372036854775808 := by decide
  simp only [hp, hq]
  split
  · rename_i h; simp only [decide_eq_true_eq] at h; omega
  · rename_i h; simp only [decide_eq_true_eq] at h; omega

theorem bits_bit (n : Int) (h1 : -9223372036854775808 ≤ n) (h2 : n ≤ 9223372036854775807) : (bits .andNot .i64 n 1 == 0) = decide (n = 0 ∨ n = 1) := by
  have e : bits .andNot .i64 n 1 = IntKind.wrap .i64 (((BitVec.ofInt 64 n) &&& ~~~(BitVec.ofInt 64 1)).toNat : Int) := rfl
  rw [e]
  have e2 : ((BitVec.ofInt 64 n) &&& ~~~(BitVec.ofInt 64 1)).toNat = 2 * ((BitVec.ofInt 64 n).toNat / 2) := by
    rw [BitVec.toNat_and]
    rw [show (~~~(BitVec.ofInt 64 1)).toNat = 2 ^ (63 + 1) - 2 by decide]
    exact nat_and_not_one _ 63 (BitVec.isLt _)
  rw [e2, BitVec.toNat_ofInt]
  have e3 : IntKind.bits .i64 = 64 := rfl
  have e4 : IntKind.signed .i64 = true := rfl
  unfold IntKind.wrap
  simp only [e3, e4, Bool.true_and]
  have hp : (2 : Int) ^ 64 = 18446744073709551616 := by decide
  have hq : (2 : Int) ^ (64 - 1) = 9223372036854775808 := by decide
  have hn : ((2 ^ 64 : Nat) : Int) = 18446744073709551616 := by decide
  simp only [hp, hq, hn]
  by_cases hc : n = 0 ∨ n = 1
  · rw [decide_eq_true hc]
    rcases hc with rfl | rfl <;> rfl
  · rw [decide_eq_false hc]
    have hne : 0 < (n % 18446744073709551616).toNat / 2 := by omega
    have hlt : (n % 18446744073709551616).toNat < 18446744073709551616 := by omega
    rw [beq_eq_false_iff_ne]
    intro h0
    split at h0 <;> omega
end Go.Fs
end

section
/- Functions of Go's library that have no text: what the model's entries do, told ahead of the machine. -/
namespace Go.Fs

/-- What is told of a function without text, by its name. -/
def extName (P : Program) (fn : Func) : Option (List AV → AH → Option (AV × AH)) :=
  if fn.name = "internal/abi.NoEscape" then some fun args h => match args with
    | [x] => some (x, h)
    | _ => none
  else if fn.name = "internal/bytealg.IndexByteString" then some fun args h => match args with
    | [.str s, .int .u8 c] => some (.int .i64 (Lib.indexByte s c.toNat.toUInt8), h)
    | _ => none
  else if fn.name = "internal/bytealg.CountString" then some fun args h => match args with
    | [.str s, .int .u8 c] => some (.int .i64 (Lib.countByte s c.toNat.toUInt8 : Nat), h)
    | _ => none
  else if fn.name = "internal/bytealg.MakeNoZero" then match fn.resultTypes.toList with
    | [t] => match P.underlying t with
      | some (.slice e) => some fun args h => match args with
        | [.int .i64 n] => if 0 ≤ n ∧ n ≤ 281474976710656 then some (.slice (some (h.n, 0)) n.toNat (.opn 1), (h.push (.cells (List.replicate n.toNat (.junk true)) false)).push (.typ h.n e)) else none
        | _ => none
      | _ => none
    | _ => none
  else none

def orcExt (P : Program) : Orc := fun f => match P.funcs[f]? with
  | some fn => match fn.body with
    | some _ => none
    | none => if fn.origin = "" then extName P fn else none
  | none => none

/-! ### The entries -/

theorem next_empty : Extern.allNextRows.lookup "" = none := by kernel_rfl

theorem next_none {fn : Func} (ho : fn.origin = "") (h : Extern.allNextRows.lookup fn.name = none) : Extern.findNext fn = none := by
  unfold Extern.findNext
  simp [ho, h, next_empty]

theorem find_row {fn : Func} {e : Array Value → Sem Value} (h1 : Extern.allGenericRows.lookup fn.name = none) (h2 : Extern.allTypedRows.lookup fn.name = none) (h : Extern.allRows.lookup fn.name = some e) : Extern.find fn = some e := by
  unfold Extern.find
  simp [h1, h2, h]

theorem find_typed {fn : Func} {e : Array TypeId → Array TypeId → Array Value → Sem Value} (h1 : Extern.allGenericRows.lookup fn.name = none) (h2 : Extern.allTypedRows.lookup fn.name = some e) : Extern.find fn = some (e fn.params fn.resultTypes) := by
  unfold Extern.find
  simp [h1, h2]

/-- A function without text whose entry leaves the world as it is. -/
theorem ext_pure {P : Program} {f : Nat} {fn : Func} {e : Array Value → Sem Value} (hf : P.funcs[f]? = some fn) (hb : fn.body = none) (hname : (fn.name == "runtime.NumGoroutine") = false)
    (hn : Extern.findNext fn = none) (he : Extern.find fn = some e) {args : List AV} {h : AH} {v : AV}
    (hrun : ∀ (ι : Emb) (w : World) (rargs : List Value), Rel P.globals.size ι h w → VRels ι args rargs → ∃ rv, (e rargs.toArray).run P w = .ok rv w ∧ VRel ι v rv) : GoodAt P f args h v h := by
  refine .inr ⟨⟨fn, hf, hb⟩, fun ι w rargs r ha => ?_⟩
  obtain ⟨rv, h1, h2⟩ := hrun ι w rargs r ha
  exact ⟨ι, rv, w, by rw [run_callFunc_extern hf hname (by simp [hb]) hn he, h1]; rfl, h2, r, Stp.refl _ _ _⟩

theorem digits_ints : ∀ (n t : Nat) (acc : Array Value), (∀ v ∈ acc.toList, ∃ k, v = .int .u8 k) → ∀ v ∈ (Extern.BytealgMakeNoZero.digits n t acc).toList, ∃ k, v = .int .u8 k
  | 0, _, _, h => h
  | n + 1, t, acc, h => by
    rw [Extern.BytealgMakeNoZero.digits]
    refine digits_ints n _ _ fun v hv => ?_
    rw [Array.toList_push, List.mem_append] at hv
    rcases hv with hv | hv
    · exact h v hv
    · simp at hv; exact ⟨_, hv⟩

theorem digits_size : ∀ (n t : Nat) (acc : Array Value), (Extern.BytealgMakeNoZero.digits n t acc).size = acc.size + n
  | 0, _, _ => rfl
  | n + 1, t, acc => by
    rw [Extern.BytealgMakeNoZero.digits, digits_size n]
    simp
    omega

theorem run_noZero {P : Program} (w : World) (ps : Array TypeId) (t e : TypeId) (ht : P.underlying t = some (.slice e)) (n : Nat) (hn : n ≤ 281474976710656) :
    ∃ cs : Array Value, (Extern.BytealgMakeNoZero.makeNoZero ps #[t] #[.int .i64 n]).run P w = .ok (.slice (some ⟨w.heap.size, 0, none⟩) n cs.size) (w.drew.drew.alloc (.cells cs e)) ∧ n ≤ cs.size ∧ cs.size ≤ maxLen ∧ ∀ v ∈ cs.toList, ∃ k, v = .int .u8 k := by
  have hdef : Extern.BytealgMakeNoZero.makeNoZero ps #[t] #[.int .i64 n] =
      (do
        let .slice elem ← underlying t | stuck "bytealg.MakeNoZero: slice type expected"
        if (n : Int) < 0 || (n : Int) > 2 ^ 48 then runtimePanic (.error "makeslice: len out of range")
        let cap ← choose (.appendCap (n : Int).toNat 0 elem)
        askRoom cap
        let bytes ← choose (.extern "internal/bytealg.MakeNoZero.bytes" 0)
        let a ← newRow elem (Extern.BytealgMakeNoZero.digits cap bytes #[])
        pure (.slice (some a) (n : Int).toNat cap)) := rfl
  refine ⟨Extern.BytealgMakeNoZero.digits (grownCap w n 0 e) ((Question.extern "internal/bytealg.MakeNoZero.bytes" 0).cut (w.tape (w.drawn + 1) (.extern "internal/bytealg.MakeNoZero.bytes" 0))) #[], ?_, ?_, ?_, digits_ints _ _ _ (by simp)⟩
  · rw [hdef]
    have h1 : ¬ (n : Int) < 0 := by omega
    have h2 : ¬ (281474976710656 : Int) < (n : Int) := by omega
    simp [run_underlying ht, h1, h2, Question.forced, newRow, digits_size, grownCap]
  · rw [digits_size]
    simpa using grownCap_ge w n 0 e
  · rw [digits_size]
    simpa using grownCap_le_maxLen w n 0 e (by have : maxLen = 9223372036854775807 := rfl; omega)

theorem one_rel' {ι : Emb} {a : AV} {rs : List Value} (h : VRels ι [a] rs) : ∃ r, rs = [r] ∧ VRel ι a r := by
  simp only [VRels] at h
  obtain ⟨r, rs', rfl, h1, rfl⟩ := h
  exact ⟨r, rfl, h1⟩

theorem two_rel' {ι : Emb} {a b : AV} {rs : List Value} (h : VRels ι [a, b] rs) : ∃ r s, rs = [r, s] ∧ VRel ι a r ∧ VRel ι b s := by
  simp only [VRels] at h
  obtain ⟨r, rs', rfl, h1, s, rs2, rfl, h2, rfl⟩ := h
  exact ⟨r, s, rfl, h1, h2⟩

theorem good_ext (P : Program) : GoodOrc P (orcExt P) := by
  intro f s hs args h v h' hv
  unfold orcExt at hs
  cases hf : P.funcs[f]? with
  | none => simp [hf] at hs
  | some fn =>
    simp only [hf] at hs
    cases hb : fn.body with
    | some b => simp [hb] at hs
    | none =>
      simp only [hb] at hs
      split at hs
      · rename_i ho
        unfold extName at hs
        split at hs
        · rename_i hnm
          cases hs
          simp only at hv
          split at hv
          · rename_i x
            cases hv
            refine ext_pure hf hb (by rw [hnm]; decide) (next_none ho (by rw [hnm]; kernel_rfl)) (e := Extern.AbiNoEscape.same) (find_row (by rw [hnm]; kernel_rfl) (by rw [hnm]; kernel_rfl) (by rw [hnm]; kernel_rfl)) fun ι w rargs r ha => ?_
            obtain ⟨rx, rfl, h1⟩ := one_rel' ha
            exact ⟨rx, rfl, h1⟩
          · cases hv
        split at hs
        · rename_i hnm
          cases hs
          simp only at hv
          split at hv
          · rename_i x c
            cases hv
            refine ext_pure hf hb (by rw [hnm]; decide) (next_none ho (by rw [hnm]; kernel_rfl)) (e := Extern.BytealgIndexByte.indexByte) (find_row (by rw [hnm]; kernel_rfl) (by rw [hnm]; kernel_rfl) (by rw [hnm]; kernel_rfl)) fun ι w rargs r ha => ?_
            obtain ⟨rx, ry, rfl, h1, h2⟩ := two_rel' ha
            rw [str_of h1, int_of h2]
            exact ⟨_, Lib.run_indexByteString _ _ w, by simp [VRel]⟩
          · cases hv
        split at hs
        · rename_i hnm
          cases hs
          simp only at hv
          split at hv
          · rename_i x c
            cases hv
            refine ext_pure hf hb (by rw [hnm]; decide) (next_none ho (by rw [hnm]; kernel_rfl)) (e := Extern.BytealgCount.count) (find_row (by rw [hnm]; kernel_rfl) (by rw [hnm]; kernel_rfl) (by rw [hnm]; kernel_rfl)) fun ι w rargs r ha => ?_
            obtain ⟨rx, ry, rfl, h1, h2⟩ := two_rel' ha
            rw [str_of h1, int_of h2]
            exact ⟨_, Lib.run_countString _ _ w, by simp [VRel]⟩
          · cases hv
        split at hs
        · rename_i hnm
          split at hs
          · rename_i t ht
            split at hs
            · rename_i e hu
              cases hs
              simp only at hv
              split at hv
              · rename_i n
                split at hv
                · rename_i hle
                  cases hv
                  have hres : fn.resultTypes = #[t] := by apply Array.ext'; simpa using ht
                  refine .inr ⟨⟨fn, hf, hb⟩, fun ι w rargs r ha => ?_⟩
                  obtain ⟨rx, rfl, h1⟩ := one_rel' ha
                  rw [int_of h1]
                  obtain ⟨cs, g1, g2, g2m, g3⟩ := run_noZero (P := P) w fn.params t e hu n.toNat (by omega)
                  rw [show ((n.toNat : Nat) : Int) = n by omega] at g1
                  have hcall := run_callFunc_extern hf (by rw [hnm]; decide) (by simp [hb]) (next_none ho (by rw [hnm]; kernel_rfl)) (find_typed (e := Extern.BytealgMakeNoZero.makeNoZero) (by rw [hnm]; kernel_rfl) (by rw [hnm]; kernel_rfl)) [Value.int .i64 n].toArray w
                  rw [hres, g1] at hcall
                  obtain ⟨k1, k2⟩ := new_ok (G := P.globals.size) (r.drew.drew) e (cs := List.replicate n.toNat (.junk true)) (arr := cs) (fun i c hc => by
                    obtain ⟨hi, hci⟩ := List.getElem?_eq_some_iff.1 hc
                    simp only [List.length_replicate] at hi
                    simp only [List.getElem_replicate] at hci
                    subst hci
                    obtain ⟨k, hk⟩ := g3 (cs[i]'(by omega)) (by simp)
                    refine ⟨cs[i]'(by omega), by simp, ?_⟩
                    rw [hk]
                    simp only [VRel]
                    exact ⟨rfl, fun b hb => (by cases hb), fun _ => rfl⟩) (fun j v hj hv => by
                    obtain ⟨k, hk⟩ := g3 v (List.mem_of_getElem? (i := j) (by rw [Array.getElem?_toList]; exact hv))
                    exact ⟨.int .u8 k, fun _ => by simp [VRel, hk]⟩)
                  have hn : ι.n = h.n := r.n
                  have hdz : w.drew.drew.heap.size = w.heap.size := rfl
                  obtain ⟨k3, k4⟩ := pushTyp k1 (b := h.n) (t := e) (by rw [← hn]; simp) (by rw [← hn]; simp) (by rw [← hn]; simp)
                  refine ⟨_, _, _, hcall, ?_, k3, (((Stp.drew ι h w).trans (Stp.drew ι h w.drew)).trans k2).trans k4⟩
                  refine VRel.mono (Emb.le_add _ _ _ _ _) ?_
                  simp only [VRel]
                  refine ⟨by rw [← hn]; simp, by omega, 0, cs.size, by rw [← hn]; simp [hdz], g2m, .inl ⟨by rw [← hn]; simp, by omega, by rw [← hn]; simp⟩⟩
                · cases hv
              · cases hv
            · cases hs
          · cases hs
        · cases hs
      · cases hs
end Go.Fs
end

