/- Laws with parameters over variables that read as listed, and one more that holds whatever number. -/
import Derived.Test.YtdehfehdaiappaaGreatDoorFsLaid
import Derived.Test.YtdehfehdaiappaaGreatDoorFsLaw
import Derived.Test.YtdehfehdaiappaaGreatDoorFsInts
import Derived.SizedLaws
namespace Go.Fs
open Go.RowKit Go.ChangeShapes

section
variable {H : Type} {enc : TypeId × Value → H} {P : Program}

theorem law_laid (hm : P.follows .mixedOrders = true) {orc : Orc} (ho : GoodOrc P orc) {opq : TypeId → Bool} {fuel f k : Nat} (hb : ((P.funcs[f]?).bind (·.body)).isSome = true) {ts : List TypeId} {vs : Array Value} {ds : List (DataW H)} {ps : List MemPlace} {w : World} {base : Nat} {as : List AV} {h0 h h' : AH} {x : Bool}
    {laid : List (String × DataW Unit)} (ht : DataW.TrodAll enc P w 0 (fun _ => true) true ts vs.toList ds ps) (hok : ∀ (j : Nat) t v, ts[j]? = some t → vs.toList[j]? = some v → Value.okWide P w .any base t v)
    (hl : absLaid P k laid (start P.globals.size) = some h0) (hw : laidMet P laid w) {g : Nat} (hg : g < P.globals.size) {m : Int} (hc : w.cell? ⟨g, 0, none⟩ = some (.int .i64 m))
    (ha : absArgs P opq fuel ts ds (h0.set g (.cells [.int .i64 m] true)) = some (as, h)) (hr : acall orc (tbl P) f as h = some (.bool x, h')) :
    Calls P f vs w fun e w' => e = .returned (.bool x) ∧ Below w.heap.size w w' := by
  obtain ⟨ps0, hv, _⟩ := hw
  obtain ⟨ι, r, hro, hle⟩ := laid_rel hv hl (start_relW P.globals.size w) (fun b c hb => by rw [start_get] at hb; cases hb) (Emb.le_refl _)
  obtain ⟨r2, ro2⟩ := r.setVar hro hle hg hc (a := .int .i64 m) (by simp [VRel])
  obtain ⟨ι', r3, _, ro3, v⟩ := openArgs ht hok r2 ro2 ha
  have := calls_acall hm ho hb hr r3 v ro3
  simpa using this

/-- What the quick machine tells may be told ahead. -/
theorem good_quick (hm : P.follows .mixedOrders = true) {orc : Orc} (ho : GoodOrc P orc) (n f : Nat) {args : List AV} {h : AH} {v : AV} {h' : AH} (hv : runQ orc (tbl P) n f args h = some (v, h')) : GoodAt P f args h v h' := by
  rw [runQ_eq] at hv
  exact run_good hm ho n f args h v h' hv

/-- What an abstract call comes to may be told ahead. -/
theorem good_acall (hm : P.follows .mixedOrders = true) {orc : Orc} (ho : GoodOrc P orc) {f : Nat} {args : List AV} {h : AH} {v : AV} {h' : AH} (hr : acall orc (tbl P) f args h = some (v, h')) : GoodAt P f args h v h' := by
  obtain ⟨n, hn⟩ := acall_ex hr
  exact run_good hm ho n f args h v h' hn

/-- A function that is run by the quick machine, wherever it is called. -/
noncomputable def orcQ (P : Program) (orc : Orc) (n g : Nat) : Orc := fun f => match Nat.beq f g with
  | true => some fun args h => runQ orc (tbl P) n f args h
  | false => orc f
theorem good_orcQ (hm : P.follows .mixedOrders = true) {orc : Orc} (ho : GoodOrc P orc) (n g : Nat) : GoodOrc P (orcQ P orc n g) := by
  intro f s hs args h v h' hv
  unfold orcQ at hs
  split at hs
  · cases hs
    exact good_quick hm ho n f hv
  · exact ho f s hs args h v h' hv

/-- The row's step: its arguments may be, its lists' variables read as listed, the world has its shape, the data are of a size that can be. -/
theorem returns_args {C : Checked} {os : Os} {f : FuncId} {fn : Func} {s : ChangeSpec} {X : World → Prop} (hX : ∀ w w' : World, w.heap = w'.heap → X w → X w')
    (own : ownKnob C.prog.godebug = none) (started : os.Started) (noInit : C.prog.inits.idxOf? f = none) (hfn : C.prog.funcs[f]? = some fn)
    (witness : ∃ (w : World) (tape : Tape) (i : Input), w.os = os ∧ (w.forCall tape i).Shaped C.prog ∧ i.vars = [] ∧ Input.okWide C.prog (w.forCall tape i) .any w.heap.size f i ∧
      ((s.pre enc C.prog fn [] false (w.forCall tape i).memory i.args ∧ X (w.forCall tape i).memory) ∧ sizedMet enc C.prog fn (OpenSpec.ofChange s) false (w.forCall tape i).memory i.args) ∧ Assume.holds {} C.prog (lone (Frame.enter C.prog f i.args .normal) [] (w.forCall tape i)))
    (go : ∀ (W : World) (base : Nat) (args : Array Value) (ds gs : List (DataW H)) (before : List MemPlace), (∀ (j : Nat) t v, fn.params[j]? = some t → args[j]? = some v → Value.okWide C.prog W .any base t v) →
      DataW.Whole enc C.prog fn.params.toList s.vars false W args.toList ds gs before → X W → W.ShapedOpen C.prog → (DataW.weightsEach C.prog (fn.params.toList ++ s.plain.varTypes C.prog) (ds ++ gs)).all (· ≤ reachBytes) = true →
      Calls C.prog f args W fun e W' => ∃ v, e = .returned v ∧ s.post enc C.prog fn false true false false W args v W') :
    ReturnsInHanded {} C os f .any (fun w args => (s.pre enc C.prog fn [] false w args ∧ X w) ∧ sizedMet enc C.prog fn (OpenSpec.ofChange s) false w args) (s.post enc C.prog fn false true false false) := by
  refine returnsInHanded_of_calls own started noInit witness ?_
  intro w tape i _ hsh _ hok hpre _
  obtain ⟨_, _, _, fn', hfn', _, _, _, _, hval⟩ := hok
  obtain rfl : fn' = fn := Option.some.inj (hfn'.symm.trans hfn)
  obtain ⟨⟨⟨ds, gs, before, hw, _⟩, hx⟩, hz⟩ := hpre
  refine (go (w.forCall tape i) w.heap.size i.args ds gs before hval (DataW.Whole.of_heap (w' := w.forCall tape i) (by rfl) hw) (hX _ _ (by rfl) hx) hsh (hz.weights hw)).mono fun e W' ⟨v, he, hp⟩ => ?_
  subst he
  exact ChangeSpec.post_blind hp

/-- A list that is handed in, of which nothing is asked. -/
theorem absArg_row {k : IntKind} {t e : TypeId} {fuel : Nat} (hu : P.underlying t = some (.slice e)) (he : P.underlying e = some (.int k)) (hc : P.cellsOf e = 1) {d : DataW H}
    (hd : d = .nil ∨ ∃ xs ys : List Int, d = .slice (xs.map fun n => .lit (.int k n)) (ys.map fun n => .lit (.int k n))) (h : AH) :
    ∃ v h', absArg P (fun _ => false) (fuel + 2) t d h = some (v, h') ∧ (h' = h ∨ ∃ blk, h' = h.push blk) := by
  rcases hd with rfl | ⟨xs, ys, rfl⟩
  · exact ⟨.slice none 0 (.exact 0), h, by simp [absArg, absD, hu], .inl rfl⟩
  · by_cases hz : xs.length + ys.length = 0
    · have hx0 : xs = [] := List.eq_nil_of_length_eq_zero (by omega)
      have hy0 : ys = [] := List.eq_nil_of_length_eq_zero (by omega)
      subst hx0 hy0
      refine ⟨.slice (some (h.n, 0)) 0 (.exact 0), h.push .dead, ?_, .inr ⟨_, rfl⟩⟩
      unfold absArg
      rw [hu]
      simp only [absD_slice (opq := fun _ => false) hu rfl, List.map_nil, List.length_nil, Nat.add_zero, if_true, Option.bind_some]
    · refine ⟨.slice (some (h.n, 0)) xs.length (.exact (xs.length + ys.length)), h.push (.cells ((xs ++ ys).map (.int k ·)) true), ?_, .inr ⟨_, rfl⟩⟩
      have := absL_ints (H := H) (P := P) (opq := fun _ => false) (f := fuel) he h (xs ++ ys)
      rw [List.map_append] at this
      unfold absArg
      rw [hu]
      simp only [absD_slice (opq := fun _ => false) hu rfl, List.length_map, if_neg hz, hc, this, Option.map_some, Option.bind_some, if_true, Nat.lt_one_iff]
theorem absArg_str {t : TypeId} {fuel : Nat} (hu : P.underlying t = some .string) (bs : List UInt8) (h : AH) : absArg (H := H) P (fun _ => false) (fuel + 1) t (.lit (.string bs)) h = some (.str bs, h) := by
  simp [absArg, absD, hu]
end
end Go.Fs
