/- From an abstract run at what is handed in to a given statement: 'the law returns true; what was handed in reads as it did'. -/
import Derived.Test.YtdehfehdaiappaaGreatDoorFsShape
import Derived.Test.YtdehfehdaiappaaGreatDoorFsSym
import Derived.Carry
import Derived.Handed
import Derived.WalkKit
import Derived.ProofKit
import Derived.OpenShut
namespace Go.Fs
open Go.RowKit Go.ChangeShapes

section
variable {H : Type} {enc : TypeId × Value → H} {P : Program}

theorem start_ro (G : Nat) : RO (start G) := fun b c hb => by rw [start_get] at hb; cases hb

/-- The walk of a law, by its abstract run. -/
theorem law_walk (hm : P.follows .mixedOrders = true) {orc : Orc} (ho : GoodOrc P orc) {opq : TypeId → Bool} {fuel f : Nat} (hb : ((P.funcs[f]?).bind (·.body)).isSome = true) {ts : List TypeId} {vs : Array Value} {ds : List (DataW H)} {ps : List MemPlace} {w : World} {base : Nat} {as : List AV} {h h' : AH} {x : Bool}
    (ht : DataW.TrodAll enc P w 0 (fun _ => true) true ts vs.toList ds ps) (hok : ∀ (j : Nat) t v, ts[j]? = some t → vs.toList[j]? = some v → Value.okWide P w .any base t v)
    (ha : absArgs P opq fuel ts ds (start P.globals.size) = some (as, h)) (hr : acall orc (tbl P) f as h = some (.bool x, h')) :
    Calls P f vs w fun e w' => e = .returned (.bool x) ∧ Below w.heap.size w w' := by
  obtain ⟨ι, r, _, ro, v⟩ := openArgs ht hok (start_rel _ w) (start_ro _) ha
  have := calls_acall hm ho hb hr r v ro
  simpa using this

theorem below_trodAll (hl : laidOutB P = true) {W W' : World} (hb : Below W.heap.size W W') : ∀ {ts : List TypeId} {vs : List Value} {ds : List (DataW H)} {ps : List MemPlace},
    (ts.all fun t => P.readableRec t && decide (t < P.types.size)) = true → DataW.TrodAll enc P W 0 (fun _ => true) true ts vs ds ps → (∀ x ∈ ps, x.block < W.heap.size) →
      DataW.TrodAll enc P W' 0 (fun b => decide (b < W.heap.size)) true ts vs ds ps
  | [], [], [], _, _, h, _ => h
  | t :: ts, v :: vs, d :: ds, ps, hts, ⟨p, q, h1, h2, he⟩, hlt => by
    subst he
    simp only [List.all_cons, Bool.and_eq_true, decide_eq_true_eq] at hts
    exact ⟨p, q, Below.trod hl hts.1.1 hts.1.2 h1 hb fun x hx => hlt x (List.mem_append_left _ hx), below_trodAll hl hb hts.2 h2 fun x hx => hlt x (List.mem_append_right _ hx), rfl⟩

theorem law_post (hl : laidOutB P = true) {f : Func} {s : ChangeSpec} {fresh handsOn : Bool} {W W' : World} {args : Array Value} {ds gs : List (DataW H)} {before : List MemPlace} {tb : TypeId}
    (hts : (f.params.toList.all fun t => P.readableRec t && decide (t < P.types.size)) = true) (hres : f.resultTypes = #[tb]) (hb : P.underlying tb = some .bool) (hs : s.vars = [])
    (hfn : s.fn H (ds ++ []) = { results := [.lit (.bool true)], args := ds }) (hW : DataW.Whole enc P f.params.toList s.vars false W args.toList ds gs before) (hB : Below W.heap.size W W') :
    s.post enc P f false fresh handsOn false W args (.bool true) W' := by
  have hW' := hW
  obtain ⟨p, q, hA, hV, he, _, _⟩ := hW'
  rw [hs] at hV
  obtain ⟨rfl, rfl⟩ := trodVars_none hV
  have hlt := hW.lt
  refine ⟨ds, [], before, [], p, [], hW, ?_, ?_, ?_, hB.frame _, fun h => by cases h⟩
  · rw [hres, hfn]
    exact trodAll_cons_mk (p := []) (shut_bool hb _) trodAll_mk0
  · rw [hfn]
    exact below_trodAll hl hB hts hA fun x hx => hlt x (by rw [he]; exact List.mem_append_left _ (by simpa using hx))
  · rw [hfn, hs]
    rfl

theorem law_contract (hm : P.follows .mixedOrders = true) {orc : Orc} (ho : GoodOrc P orc) (hl : laidOutB P = true) {opq : TypeId → Bool} {fuel : Nat} {fid : FuncId} (hbody : ((P.funcs[fid]?).bind (·.body)).isSome = true) {f : Func} {s : ChangeSpec} {fresh handsOn : Bool} {tb : TypeId}
    (hts : (f.params.toList.all fun t => P.readableRec t && decide (t < P.types.size)) = true) (hres : f.resultTypes = #[tb]) (hb : P.underlying tb = some .bool) (hs : s.vars = [])
    (habs : ∀ (W : World) (args : Array Value) (ds : List (DataW H)) (p : List MemPlace), DataW.TrodAll enc P W 0 (fun _ => true) true f.params.toList args.toList ds p →
      (s.fn H (ds ++ []) = { results := [.lit (.bool true)], args := ds }) ∧ ∃ as h h', absArgs P opq fuel f.params.toList ds (start P.globals.size) = some (as, h) ∧ acall orc (tbl P) fid as h = some (.bool true, h'))
    (W : World) (base : Nat) (args : Array Value) (ds gs : List (DataW H)) (before : List MemPlace)
    (hval : ∀ (j : Nat) t v, f.params[j]? = some t → args[j]? = some v → Value.okWide P W .any base t v) (hW : DataW.Whole enc P f.params.toList s.vars false W args.toList ds gs before) :
    Calls P fid args W fun e W' => ∃ v, e = .returned v ∧ s.post enc P f false fresh handsOn false W args v W' := by
  have hW' := hW
  obtain ⟨p, q, hA, hV, he, _, _⟩ := hW'
  obtain ⟨hfn, as, h, h', h1, h2⟩ := habs W args ds p hA
  refine (law_walk hm ho hbody hA (fun j t v hj hv => hval j t v (by simpa using hj) (by simpa using hv)) h1 h2).mono fun e W' ⟨he, hB⟩ => ?_
  exact ⟨_, he, law_post hl hts hres hb hs hfn hW hB⟩
end
end Go.Fs
