/- From an abstract run to what a row asks of a call. -/
import Derived.Test.YtdehfehdaiappaaGreatDoorFsSound
namespace Go.Fs
open Go.RowKit

def start (G : Nat) : AH := ⟨G, G, .leaf⟩
def emb0 (G : Nat) : Emb := ⟨G, fun b => b, fun _ => 0, fun _ => 0, fun _ => 0⟩

theorem start_get (G b : Nat) : (start G).get b = none := rfl

theorem start_rel (G : Nat) (w : World) : Rel G (emb0 G) (start G) w :=
  ⟨rfl, fun b c h => (by rw [start_get] at h; cases h), Nat.le_refl _, fun _ _ => ⟨rfl, rfl⟩, fun b c h => (by rw [start_get] at h; cases h), fun b b' c c' h => (by rw [start_get] at h; cases h)⟩

/-- A heap in which nothing may be written: what was there stays. -/
theorem below_of {ι ι' : Emb} {h h' : AH} {w w' : World} (s : Stp ι ι' h h' w w') (hro : ∀ b c, h.get b = some c → ¬ c.rw) : Below w.heap.size w w' :=
  ⟨s.os, s.tape, s.output, s.size, fun k hk => s.kept k hk fun b c hb hc _ => hro b c hb hc⟩

/-- A call whose abstract run hands back a bool, out of a heap in which nothing may be written. -/
theorem calls_bool {P : Program} (hm : P.follows .mixedOrders = true) {orc : Orc} (ho : GoodOrc P orc) {n f : Nat} (hb : ((P.funcs[f]?).bind (·.body)).isSome = true) {args : List AV} {h : AH} {x : Bool} {h' : AH} (hr : runO orc (tbl P) n f args h = some (.bool x, h')) {ι : Emb} {w : World} {rargs : List Value}
    (r : Rel P.globals.size ι h w) (ha : VRels ι args rargs) (hro : ∀ b c, h.get b = some c → ¬ c.rw) :
    Calls P f rargs.toArray w fun e w' => e = .returned (.bool x) ∧ Below w.heap.size w w' :=
  (run_sound hm ho hb hr r ha).mono fun _ _ ⟨_, _, he, hv, _, s⟩ => ⟨by rw [he, bool_of hv], below_of s hro⟩

/-- A closed function: its abstract run is the kernel's. -/
theorem calls_closed {P : Program} (hm : P.follows .mixedOrders = true) {orc : Orc} (ho : GoodOrc P orc) {n f : Nat} (hb : ((P.funcs[f]?).bind (·.body)).isSome = true) {x : Bool} {h' : AH} (hr : runO orc (tbl P) n f [] (start P.globals.size) = some (.bool x, h')) (w : World) :
    Calls P f #[] w fun e w' => e = .returned (.bool x) ∧ Below w.heap.size w w' :=
  calls_bool hm ho hb hr (start_rel _ w) (rargs := []) (by simp [VRels]) fun b c hb => by rw [start_get] at hb; cases hb
/-- The same, where nothing is said of the heap behind it. -/
theorem calls_closedO {P : Program} (hm : P.follows .mixedOrders = true) {orc : Orc} (ho : GoodOrc P orc) {n f : Nat} (hb : ((P.funcs[f]?).bind (·.body)).isSome = true) {x : Bool} (hr : (runO orc (tbl P) n f [] (start P.globals.size)).map Prod.fst = some (.bool x)) (w : World) :
    Calls P f #[] w fun e w' => e = .returned (.bool x) ∧ Below w.heap.size w w' := by
  obtain ⟨⟨v, h'⟩, h1, h2⟩ := Option.map_eq_some_iff.1 hr
  simp only at h2
  subst h2
  exact calls_closed hm ho hb h1 w

theorem calls_closed' {P : Program} (hm : P.follows .mixedOrders = true) {n f : Nat} (hb : ((P.funcs[f]?).bind (·.body)).isSome = true) {x : Bool} (hr : (run (tbl P) n f [] (start P.globals.size)).map Prod.fst = some (.bool x)) (w : World) :
    Calls P f #[] w fun e w' => e = .returned (.bool x) ∧ Below w.heap.size w w' := calls_closedO hm (good_noOrc P) hb hr w
end Go.Fs
