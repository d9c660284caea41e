/- Package-level variables that read as listed: what the abstract heap holds of them when the call begins. -/
import Derived.Test.YtdehfehdaiappaaGreatDoorFsOpen
import Derived.Test.YtdehfehdaiappaaGreatDoorFsFast3
import GoSem.ClaimJoined
import Derived.Handed
namespace Go.Fs
open Go.RowKit

/-- The variables' rows, one by one. -/
def absLaid (P : Program) (f : Nat) : List (String × DataW Unit) → AH → Option AH
  | [], h => some h
  | (n, d) :: r, h => match P.globalNamed n with
    | some g => match (P.globals[g]?).map (·.type) with
      | some t => match absD P (fun _ => false) f t d h with
        | some (cs, h') => if g < P.globals.size then absLaid P f r (h'.set g (.cells cs true)) else none
        | none => none
      | none => none
    | none => none

/-- Where the variables lie, and how great they are. -/
def embW (G : Nat) (w : World) : Emb := ⟨G, fun b => b, fun _ => 0, fun b => ((w.shape? b).map (·.2)).getD 0, fun b => ((w.shape? b).map (·.1)).getD 0⟩

theorem start_relW (G : Nat) (w : World) : Rel G (embW G w) (start G) w :=
  ⟨rfl, fun b c h => (by rw [start_get] at h; cases h), Nat.le_refl _, fun _ _ => ⟨rfl, rfl⟩, fun b c h => (by rw [start_get] at h; cases h), fun b b' c c' h => (by rw [start_get] at h; cases h)⟩

theorem Rel.setRo {G : Nat} {ι : Emb} {h : AH} {w : World} (r : Rel G ι h w) (hro : RO h) {g : Nat} (hg : g < G) {cs : List AV} (hb : BRel ι w g (.cells cs true)) : Rel G ι (h.set g (.cells cs true)) w ∧ RO (h.set g (.cells cs true)) := by
  have hro' : RO (h.set g (.cells cs true)) := fun b c hb' => by
    rw [Hp.get_set] at hb'
    split at hb'
    · cases hb'; simp [Blk.rw]
    · exact hro b c hb'
  refine ⟨⟨r.n, fun b c hb' => ?_, r.gn, r.glob, fun b c hb' => ?_, fun b b' c c' hb1 _ _ hrw _ => absurd hrw (hro' b c hb1)⟩, hro'⟩
  · rw [Hp.get_set] at hb'
    split at hb'
    · rename_i he; subst he; have := r.gn; simp; omega
    · exact r.dom b c hb'
  · rw [Hp.get_set] at hb'
    split at hb'
    · rename_i he; cases hb'; rw [he]; exact hb
    · exact r.brel b c hb'

theorem laid_rel {P : Program} {w : World} {f : Nat} : ∀ {laid : List (String × DataW Unit)} {ps : List MemPlace} {h h' : AH} {ι : Emb}, DataW.LaidVars P w laid ps → absLaid P f laid h = some h' →
    Rel P.globals.size ι h w → RO h → (embW P.globals.size w).le ι → ∃ ι', Rel P.globals.size ι' h' w ∧ RO h' ∧ (embW P.globals.size w).le ι'
  | [], _, h, h', ι, _, ha, r, hro, hle => by cases ha; exact ⟨ι, r, hro, hle⟩
  | (n, d) :: l, ps, h, h', ι, hv, ha, r, hro, hle => by
    obtain ⟨g, t, cs, fuel, p, q, h1, h2, h3, h4, h5, _⟩ := hv
    simp only [absLaid, h1, h2] at ha
    split at ha
    · rename_i as h2' habs
      split at ha
      · rename_i hg
        obtain ⟨ι', r', hle', hro', hrel⟩ := tells (opq := fun _ => false) (G := P.globals.size) fuel f t cs.toList d p h4 ι h as h2' r hro habs
        have hle2 := hle.trans hle'
        obtain ⟨e, fr, hblk⟩ : ∃ e fr, w.heap[g]? = some (.cells cs e fr) := by
          unfold World.var? at h3
          rw [h1] at h3
          simp only [Option.bind_some] at h3
          split at h3
          · rename_i c e fr hh; cases h3; exact ⟨e, fr, hh⟩
          · cases h3
        have hshape : w.shape? g = some (e, cs.size) := by unfold World.shape?; rw [hblk]
        have hgl := r'.glob g hg
        have hsz : ι'.size g = cs.size := by
          rw [hle2.size g hg]; simp [embW, hshape]
        have hty : ι'.ty g = e := by
          rw [hle2.ty g hg]; simp [embW, hshape]
        obtain ⟨r2, ro2⟩ := r'.setRo hro' hg (cs := as) ⟨cs, e, fr, by rw [hgl.1]; exact hblk, hsz, fun i c hc => by
          obtain ⟨v, k1, k2⟩ := hrel.get i c hc
          exact ⟨v, by rw [hgl.2, Nat.zero_add, ← Array.getElem?_toList]; exact k1, k2⟩, (fun hh => by cases hh), hty⟩
        exact laid_rel h5 ha r2 ro2 hle2
      · cases ha
    · cases ha

/-- A closed function over variables that read as listed: its abstract run is the kernel's. -/
theorem calls_laid {P : Program} (hm : P.follows .mixedOrders = true) {orc : Orc} (ho : GoodOrc P orc) {n f k : Nat} (hb : ((P.funcs[f]?).bind (·.body)).isSome = true) {laid : List (String × DataW Unit)} {x : Bool}
    (hr : ((absLaid P k laid (start P.globals.size)).bind fun h => (runQ orc (tbl P) n f [] h).map Prod.fst) = some (.bool x)) {w : World} (hw : laidMet P laid w) :
    Calls P f #[] w fun e w' => e = .returned (.bool x) ∧ Below w.heap.size w w' := by
  obtain ⟨h, h1, h2⟩ := Option.bind_eq_some_iff.1 hr
  obtain ⟨⟨v, h'⟩, h3, h4⟩ := Option.map_eq_some_iff.1 h2
  simp only at h4
  subst h4
  rw [runQ_eq] at h3
  obtain ⟨ps, hv, _⟩ := hw
  obtain ⟨ι, r, hro, _⟩ := laid_rel hv h1 (start_relW P.globals.size w) (fun b c hb => by rw [start_get] at hb; cases hb) (Emb.le_refl _)
  exact calls_bool hm ho hb h3 r (rargs := []) (by simp [VRels]) hro

/-- One variable more, of one cell: whatever it holds. -/
theorem Rel.setVar {G : Nat} {ι : Emb} {h : AH} {w : World} (r : Rel G ι h w) (hro : RO h) (hle : (embW G w).le ι) {g : Nat} (hg : g < G) {a : AV} {v : Value} (hc : w.cell? ⟨g, 0, none⟩ = some v) (hv : VRel ι a v) :
    Rel G ι (h.set g (.cells [a] true)) w ∧ RO (h.set g (.cells [a] true)) := by
  obtain ⟨arr, e, fr, hb, h0⟩ : ∃ arr e fr, w.heap[g]? = some (.cells arr e fr) ∧ arr[0]? = some v := by
    unfold World.cell? at hc
    simp only [Option.isSome_none, Bool.false_eq_true, if_false] at hc
    split at hc
    · rename_i c e fr hh; exact ⟨c, e, fr, hh, hc⟩
    · cases hc
  have hshape : w.shape? g = some (e, arr.size) := by unfold World.shape?; rw [hb]
  have hgl := r.glob g hg
  refine r.setRo hro hg ⟨arr, e, fr, by rw [hgl.1]; exact hb, by rw [hle.size g hg]; simp [embW, hshape], fun i c hi => ?_, (fun hh => by cases hh), by rw [hle.ty g hg]; simp [embW, hshape]⟩
  cases i with
  | zero => simp at hi; subst hi; exact ⟨v, by rw [hgl.2]; exact h0, hv⟩
  | succ i => simp at hi

/-- A closed function over variables that read as listed, and one more that holds whatever number: its abstract run is the kernel's. -/
theorem calls_laidM {P : Program} (hm : P.follows .mixedOrders = true) {orc : Orc} (ho : GoodOrc P orc) {n f k g : Nat} (hb : ((P.funcs[f]?).bind (·.body)).isSome = true) (hg : g < P.globals.size) {laid : List (String × DataW Unit)} {x : Bool}
    (hr : ∀ m : Int, ((absLaid P k laid (start P.globals.size)).bind fun h => (runQ orc (tbl P) n f [] (h.set g (.cells [.int .i64 m] true))).map Prod.fst) = some (.bool x)) {w : World} (hw : laidMet P laid w) {m : Int} (hc : w.cell? ⟨g, 0, none⟩ = some (.int .i64 m)) :
    Calls P f #[] w fun e w' => e = .returned (.bool x) ∧ Below w.heap.size w w' := by
  obtain ⟨h, h1, h2⟩ := Option.bind_eq_some_iff.1 (hr m)
  obtain ⟨⟨v, h'⟩, h3, h4⟩ := Option.map_eq_some_iff.1 h2
  simp only at h4
  subst h4
  rw [runQ_eq] at h3
  obtain ⟨ps, hv, _⟩ := hw
  obtain ⟨ι, r, hro, hle⟩ := laid_rel hv h1 (start_relW P.globals.size w) (fun b c hb => by rw [start_get] at hb; cases hb) (Emb.le_refl _)
  obtain ⟨r2, ro2⟩ := r.setVar hro hle hg hc (a := .int .i64 m) (by simp [VRel])
  exact calls_bool hm ho hb h3 r2 (rargs := []) (by simp [VRels]) ro2

/-- The row's step where the world's shape is asked. -/
theorem returns_shaped {H : Type} {enc : TypeId × Value → H} {C : Checked} {os : Os} {f : FuncId} {fn : Func} {s : ChangeSpec} {X : World → Prop} (hX : ∀ w w' : World, w.heap = w'.heap → X w → X w')
    (own : ownKnob C.prog.godebug = none) (started : os.Started) (noInit : C.prog.inits.idxOf? f = none) (hfn : C.prog.funcs[f]? = some fn)
    (witness : ∃ (w : World) (tape : Tape) (i : Input), w.os = os ∧ (w.forCall tape i).Shaped C.prog ∧ i.vars = [] ∧ Input.okWide C.prog (w.forCall tape i) .any w.heap.size f i ∧
      ((s.pre enc C.prog fn [] false (w.forCall tape i).memory i.args ∧ X (w.forCall tape i).memory) ∧ sizedMet enc C.prog fn (OpenSpec.ofChange s) false (w.forCall tape i).memory i.args) ∧ Assume.holds {} C.prog (lone (Frame.enter C.prog f i.args .normal) [] (w.forCall tape i)))
    (go : ∀ (W : World) (args : Array Value) (ds gs : List (DataW H)) (before : List MemPlace), DataW.Whole enc C.prog fn.params.toList s.vars false W args.toList ds gs before → X W → W.ShapedOpen C.prog →
      Calls C.prog f args W fun e W' => ∃ v, e = .returned v ∧ s.post enc C.prog fn false true false false W args v W') :
    ReturnsInHanded {} C os f .any (fun w args => (s.pre enc C.prog fn [] false w args ∧ X w) ∧ sizedMet enc C.prog fn (OpenSpec.ofChange s) false w args) (s.post enc C.prog fn false true false false) := by
  refine returnsInHanded_of_calls own started noInit witness ?_
  intro w tape i _ hsh _ hok hpre _
  obtain ⟨_, _, _, fn', hfn', _, _, _, _, _⟩ := hok
  obtain rfl : fn' = fn := Option.some.inj (hfn'.symm.trans hfn)
  obtain ⟨⟨⟨ds, gs, before, hw, _⟩, hx⟩, _⟩ := hpre
  refine (go (w.forCall tape i) i.args ds gs before (DataW.Whole.of_heap (w' := w.forCall tape i) (by rfl) hw) (hX _ _ (by rfl) hx) hsh).mono fun e W' ⟨v, he, hp⟩ => ?_
  subst he
  exact ChangeSpec.post_blind hp

/-- The same where nothing is listed. -/
theorem calls_quick {P : Program} (hm : P.follows .mixedOrders = true) {orc : Orc} (ho : GoodOrc P orc) {n f : Nat} (hb : ((P.funcs[f]?).bind (·.body)).isSome = true) {x : Bool}
    (hr : (runQ orc (tbl P) n f [] (start P.globals.size)).map Prod.fst = some (.bool x)) (w : World) :
    Calls P f #[] w fun e w' => e = .returned (.bool x) ∧ Below w.heap.size w w' := by
  rw [runQ_eq] at hr
  exact calls_closedO hm ho hb hr w
end Go.Fs
