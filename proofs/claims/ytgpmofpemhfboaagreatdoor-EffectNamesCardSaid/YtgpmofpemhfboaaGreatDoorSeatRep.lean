/- What is told ahead of the machine at this seat, with strings.Repeat: the shelf's contract, laid. -/
import Derived.Test.YtgpmofpemhfboaaGreatDoorSeatOrc
import Derived.Shelf.Lay
import Derived.Shelf.Strings.Repeat
namespace Go.Proofs
open Go.Shelf
shelf_lay Lays.n105 Nm 105 at Tryz as Tryz.laysRep
theorem Tryz.extraRep : Builder.Extra Tryz.prog Tryz.laysRep_ren where
  sizeBuilder := by kernel_rfl
  liesBuilder := by kernel_rfl
  t5 := Tryz.underlying5
  a5 := Tryz.isAgg5
  z5 := Tryz.sizeOf5
  v5 := Tryz.zeroValue5
  infoByte := by kernel_rfl
  cellsByte := by kernel_rfl
  sizeByte := by kernel_rfl
  neB5 := by decide
namespace YtgpmofpemhfboaaGreatDoor.suits
open Go.RowKit Go.Fs

noncomputable def tellRep (args : List AV) (h : AH) : Option (AV × AH) :=
  match args with
  | [.str s, .int .i64 (.ofNat c)] => if s.length * c ≤ 1048576 ∧ c ≤ 1048576 then some (.str (Lib.repeatL s c), h) else none
  | _ => none

noncomputable def orcR : Orc := fun f => match orc f with
  | some s => some s
  | none => match Nat.beq f 16 with
    | true => some tellRep
    | false => none

theorem goodR : GoodOrc Tryz.prog orcR := by
  intro f s hs args h v h' hv
  unfold orcR at hs
  split at hs
  · rename_i s' he
    cases hs
    exact good f _ he args h v h' hv
  · split at hs
    · rename_i hf
      cases hs
      obtain rfl := Nat.eq_of_beq_eq_true hf
      unfold tellRep at hv
      split at hv
      · rename_i str c
        split at hv
        · rename_i hb
          cases hv
          refine .inl ⟨body_of (by kernel_rfl), fun ι w rargs r ha => ?_⟩
          obtain ⟨rx, ry, rfl, h1, h2⟩ := two_rel' ha
          rw [str_of h1, int_of h2]
          have main := Any.strings_Repeat Tryz.laysRep Tryz.extraRep ⟨str.toArray⟩ c w (by omega) (by
            have : (⟨str.toArray⟩ : ByteArray).size = str.length := by simp [ByteArray.size]
            rw [this]; omega)
          refine (show Calls Tryz.prog 16 [Value.string ⟨str.toArray⟩, Value.int .i64 (c : Int)].toArray w _ from main).mono fun e w' ⟨he, hb⟩ => ?_
          exact ⟨ι, _, he, by simp [VRel], r.later fun k hk => hb.block k hk, below_stp hb⟩
        · cases hv
      · cases hv
    · cases hs
end YtgpmofpemhfboaaGreatDoor.suits
end Go.Proofs
