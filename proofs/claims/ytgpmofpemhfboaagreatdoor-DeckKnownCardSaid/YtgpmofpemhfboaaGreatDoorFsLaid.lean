/- Package-level variables that read as listed: what the abstract heap holds of them when the call begins. -/
import Derived.Test.YtgpmofpemhfboaaGreatDoorFsOpen
import Derived.Test.YtgpmofpemhfboaaGreatDoorFsFast3
import GoSem.ClaimJoined
namespace Go.Fs
open Go.RowKit

/-- The variables' rows, one by one. -/
def absLaid (P : Program) (f : Nat) : List (String × DataW Unit) → AH → Option AH
  | [], h => some h
  | (n, d) :: r, h => match P.globalNamed n with
    | some g => match (P.globals[g]?).map (·.type) with
      | some t => match absD P (fun _ => false) f t d h with
        | some (cs, h') => if g < P.globals.size then absLaid P f r (h'.set g (.cells cs true)) else none
        | none => none
      | none => none
    | none => none

/-- Where the variables lie, and how great they are. -/
def embW (G : Nat) (w : World) : Emb := ⟨G, fun b => b, fun _ => 0, fun b => ((w.shape? b).map (·.2)).getD 0, fun b => ((w.shape? b).map (·.1)).getD 0⟩

theorem start_relW (G : Nat) (w : World) : Rel G (embW G w) (start G) w :=
  ⟨rfl, fun b c h => (by rw [start_get] at h; cases h), Nat.le_refl _, fun _ _ => ⟨rfl, rfl⟩, fun b c h => (by rw [start_get] at h; cases h), fun b b' c c' h => (by rw [start_get] at h; cases h)⟩

theorem Rel.setRo {G : Nat} {ι : Emb} {h : AH} {w : World} (r : Rel G ι h w) (hro : RO h) {g : Nat} (hg : g < G) {cs : List AV} (hb : BRel ι w g (.cells cs true)) : Rel G ι (h.set g (.cells cs true)) w ∧ RO (h.set g (.cells cs true)) := by
  have hro' : RO (h.set g (.cells cs true)) := fun b c hb' => by
    rw [Hp.get_set] at hb'
    split at hb'
    · cases hb'; simp [Blk.rw]
    · exact hro b c hb'
  refine ⟨⟨r.n, fun b c hb' => ?_, r.gn, r.glob, fun b c hb' => ?_, fun b b' c c' hb1 _ _ hrw _ => absurd hrw (hro' b c hb1)⟩, hro'⟩
  · rw [Hp.get_set] at hb'
    split at hb'
    · rename_i he; subst he; have := r.gn; simp; omega
    · exact r.dom b c hb'
  · rw [Hp.get_set] at hb'
    split at hb'
    · rename_i he; cases hb'; rw [he]; exact hb
    · exact r.brel b c hb'

theorem laid_rel {P : Program} {w : World} {f : Nat} : ∀ {laid : List (String × DataW Unit)} {ps : List MemPlace} {h h' : AH} {ι : Emb}, DataW.LaidVars P w laid ps → absLaid P f laid h = some h' →
    Rel P.globals.size ι h w → RO h → (embW P.globals.size w).le ι → ∃ ι', Rel P.globals.size ι' h' w ∧ RO h'
  | [], _, h, h', ι, _, ha, r, hro, _ => by cases ha; exact ⟨ι, r, hro⟩
  | (n, d) :: l, ps, h, h', ι, hv, ha, r, hro, hle => by
    obtain ⟨g, t, cs, fuel, p, q, h1, h2, h3, h4, h5, _⟩ := hv
    simp only [absLaid, h1, h2] at ha
    split at ha
    · rename_i as h2' habs
      split at ha
      · rename_i hg
        obtain ⟨ι', r', hle', hro', hrel⟩ := tells (opq := fun _ => false) (G := P.globals.size) fuel f t cs.toList d p h4 ι h as h2' r hro habs
        have hle2 := hle.trans hle'
        obtain ⟨e, fr, hblk⟩ : ∃ e fr, w.heap[g]? = some (.cells cs e fr) := by
          unfold World.var? at h3
          rw [h1] at h3
          simp only [Option.bind_some] at h3
          split at h3
          · rename_i c e fr hh; cases h3; exact ⟨e, fr, hh⟩
          · cases h3
        have hshape : w.shape? g = some (e, cs.size) := by unfold World.shape?; rw [hblk]
        have hgl := r'.glob g hg
        have hsz : ι'.size g = cs.size := by
          rw [hle2.size g hg]; simp [embW, hshape]
        have hty : ι'.ty g = e := by
          rw [hle2.ty g hg]; simp [embW, hshape]
        obtain ⟨r2, ro2⟩ := r'.setRo hro' hg (cs := as) ⟨cs, e, fr, by rw [hgl.1]; exact hblk, hsz, fun i c hc => by
          obtain ⟨v, k1, k2⟩ := hrel.get i c hc
          exact ⟨v, by rw [hgl.2, Nat.zero_add, ← Array.getElem?_toList]; exact k1, k2⟩, (fun hh => by cases hh), hty⟩
        exact laid_rel h5 ha r2 ro2 hle2
      · cases ha
    · cases ha

/-- A closed function over variables that read as listed: its abstract run is the kernel's. -/
theorem calls_laid {P : Program} (hm : P.follows .mixedOrders = true) {orc : Orc} (ho : GoodOrc P orc) {n f k : Nat} (hb : ((P.funcs[f]?).bind (·.body)).isSome = true) {laid : List (String × DataW Unit)} {x : Bool}
    (hr : ((absLaid P k laid (start P.globals.size)).bind fun h => (runQ orc (tbl P) n f [] h).map Prod.fst) = some (.bool x)) {w : World} (hw : laidMet P laid w) :
    Calls P f #[] w fun e w' => e = .returned (.bool x) ∧ Below w.heap.size w w' := by
  obtain ⟨h, h1, h2⟩ := Option.bind_eq_some_iff.1 hr
  obtain ⟨⟨v, h'⟩, h3, h4⟩ := Option.map_eq_some_iff.1 h2
  simp only at h4
  subst h4
  rw [runQ_eq] at h3
  obtain ⟨ps, hv, _⟩ := hw
  obtain ⟨ι, r, hro⟩ := laid_rel hv h1 (start_relW P.globals.size w) (fun b c hb => by rw [start_get] at hb; cases hb) (Emb.le_refl _)
  exact calls_bool hm ho hb h3 r (rargs := []) (by simp [VRels]) hro

/-- The same where nothing is listed. -/
theorem calls_quick {P : Program} (hm : P.follows .mixedOrders = true) {orc : Orc} (ho : GoodOrc P orc) {n f : Nat} (hb : ((P.funcs[f]?).bind (·.body)).isSome = true) {x : Bool}
    (hr : (runQ orc (tbl P) n f [] (start P.globals.size)).map Prod.fst = some (.bool x)) (w : World) :
    Calls P f #[] w fun e w' => e = .returned (.bool x) ∧ Below w.heap.size w w' := by
  rw [runQ_eq] at hr
  exact calls_closedO hm ho hb hr w
end Go.Fs
