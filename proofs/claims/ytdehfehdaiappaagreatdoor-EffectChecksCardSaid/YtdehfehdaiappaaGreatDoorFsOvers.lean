/- Several functions told over one first heap. -/
import Derived.Test.YtdehfehdaiappaaGreatDoorFsOver
namespace Go.Fs
variable {P : Program}

noncomputable def orcOvers (P : Program) (orc : Orc) (h0 : AH) (n : Nat) (gs : List Nat) : Orc := fun f => match gs.contains f with
  | true => orcOver P orc h0 n f f
  | false => orc f

theorem good_orcOvers (hm : P.follows .mixedOrders = true) {orc : Orc} (ho : GoodOrc P orc) {h0 : AH} (hok : heapOk P.globals.size h0 = true) {n : Nat} {gs : List Nat} (hb : (gs.all fun g => ((P.funcs[g]?).bind (·.body)).isSome) = true) : GoodOrc P (orcOvers P orc h0 n gs) := by
  intro f s hs args h v h' hv
  unfold orcOvers at hs
  split at hs
  · rename_i hc
    exact good_orcOver hm ho hok (g := f) (List.all_eq_true.1 hb f (List.contains_iff_mem.1 hc)) f s hs args h v h' hv
  · exact ho f s hs args h v h' hv

theorem acall_told {orc : Orc} {t : Nat → Option CF} {f : Nat} {s : List AV → AH → Option (AV × AH)} (hs : orc f = some s) {args : List AV} {h : AH} {r : AV × AH} (ha : acall orc t f args h = some r) : s args h = some r := by
  obtain ⟨n, hn⟩ := acall_ex ha
  cases n with
  | zero => simp [runO] at hn
  | succ n =>
    rw [runO, hs] at hn
    exact hn
theorem acall_overs {orc orc' : Orc} {h0 h : AH} {n g : Nat} {args : List AV} {v : AV} (he : orc' g = orcOver P orc h0 n g g) (hr : (runQ orc (tbl P) n g args h0).map Prod.fst = some v) (ha : AV.unders 0 args = true) (hv : v.under 0 = true) (hg : Grown h0 h) :
    acall orc' (tbl P) g args h = some (v, h) := by
  have h1 := acall_over (P := P) hr ha hv hg
  cases hs : orcOver P orc h0 n g g with
  | none =>
    exfalso
    unfold orcOver at hs
    rw [Nat.beq_refl] at hs
    cases hs
  | some s => exact acall_orc (he.trans hs) (acall_told hs h1)

/-- Does a run come to this text? -/
noncomputable def isStr (r : Option (AV × AH)) (s : List UInt8) : Bool := match r with
  | some (v, _) => v.same (.str s)
  | none => false
theorem isStr_eq {r : Option (AV × AH)} {s : List UInt8} (h : isStr r s = true) : r.map Prod.fst = some (.str s) := by
  unfold isStr at h
  split at h
  · rw [Option.map_some, AV.same_eq h]
  · cases h
end Go.Fs
