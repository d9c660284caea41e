/- What is told ahead of the machine at this seat, with strings.Repeat: the shelf's contract, laid. -/
import Derived.Test.YtgpmofpemhfboaaGreatDoorSeatOrc
import Derived.Shelf.Strings.Repeat
namespace Go.Proofs
open Go.Shelf
def Tryz.laysRep_ren : Go.Shelf.Ren := ⟨fun | 99 => 58 | 105 => 16 | 165 => 59 | 166 => 35 | 169 => 36 | 170 => 60 | 206 => 86 | 212 => 57 | 240 => 76 | 241 => 87 | 263 => 84 | 264 => 85 | 276 => 108 | 277 => 115 | n => n, fun | 37 => 65 | 46 => 116 | 51 => 139 | 53 => 142 | 70 => 88 | 72 => 90 | 75 => 81 | 76 => 82 | 80 => 91 | 109 => 117 | 127 => 131 | 146 => 140 | 148 => 143 | 164 => 166 | n => n, fun | n => n⟩
theorem Tryz.laysRep : Go.Proofs.Lays.n105 Tryz.prog Tryz.laysRep_ren where
  mixed := by kernel_rfl
  f99 := Tryz.func58.trans (congrArg some (by kernel_rfl))
  f105 := Tryz.func16.trans (congrArg some (by kernel_rfl))
  f165 := Tryz.func59.trans (congrArg some (by kernel_rfl))
  f166 := Tryz.func35.trans (congrArg some (by kernel_rfl))
  f169 := Tryz.func36.trans (congrArg some (by kernel_rfl))
  f170 := Tryz.func60.trans (congrArg some (by kernel_rfl))
  f206 := Tryz.func86.trans (congrArg some (by kernel_rfl))
  f212 := Tryz.func57.trans (congrArg some (by kernel_rfl))
  f240 := Tryz.func76.trans (congrArg some (by kernel_rfl))
  f241 := Tryz.func87.trans (congrArg some (by kernel_rfl))
  f263 := Tryz.func84.trans (congrArg some (by kernel_rfl))
  f264 := Tryz.func85.trans (congrArg some (by kernel_rfl))
  f276 := Tryz.func108.trans (congrArg some (by kernel_rfl))
  f277 := Tryz.func115.trans (congrArg some (by kernel_rfl))
  t0 := Tryz.underlying0
  a0 := Tryz.isAgg0
  z0 := Tryz.sizeOf0
  v0 := Tryz.zeroValue0
  t3 := Tryz.underlying3
  a3 := Tryz.isAgg3
  z3 := Tryz.sizeOf3
  v3 := Tryz.zeroValue3
  t4 := Tryz.underlying4
  a4 := Tryz.isAgg4
  z4 := Tryz.sizeOf4
  v4 := Tryz.zeroValue4
  t5 := Tryz.underlying5
  a5 := Tryz.isAgg5
  z5 := Tryz.sizeOf5
  v5 := Tryz.zeroValue5
  t9 := Tryz.underlying9
  a9 := Tryz.isAgg9
  z9 := Tryz.sizeOf9
  v9 := Tryz.zeroValue9
  t20 := Tryz.underlying20
  a20 := Tryz.isAgg20
  z20 := Tryz.sizeOf20
  v20 := Tryz.zeroValue20
  t37 := Tryz.underlying65
  a37 := Tryz.isAgg65
  z37 := Tryz.sizeOf65
  v37 := Tryz.zeroValue65
  t46 := Tryz.underlying116
  a46 := Tryz.isAgg116
  z46 := Tryz.sizeOf116
  v46 := Tryz.zeroValue116
  t51 := Tryz.underlying139
  a51 := Tryz.isAgg139
  z51 := Tryz.sizeOf139
  v51 := Tryz.zeroValue139
  t53 := Tryz.underlying142
  a53 := Tryz.isAgg142
  z53 := Tryz.sizeOf142
  v53 := Tryz.zeroValue142
  t70 := Tryz.underlying88
  a70 := Tryz.isAgg88
  z70 := Tryz.sizeOf88
  v70 := Tryz.zeroValue88
  t72 := Tryz.underlying90
  a72 := Tryz.isAgg90
  z72 := Tryz.sizeOf90
  v72 := Tryz.zeroValue90
  t75 := Tryz.underlying81
  a75 := Tryz.isAgg81
  z75 := Tryz.sizeOf81
  v75 := Tryz.zeroValue81
  t76 := Tryz.underlying82
  a76 := Tryz.isAgg82
  z76 := Tryz.sizeOf82
  v76 := Tryz.zeroValue82
  t109 := Tryz.underlying117
  a109 := Tryz.isAgg117
  z109 := Tryz.sizeOf117
  v109 := Tryz.zeroValue117
  t127 := Tryz.underlying131
  a127 := Tryz.isAgg131
  z127 := Tryz.sizeOf131
  v127 := Tryz.zeroValue131
  t146 := Tryz.underlying140
  a146 := Tryz.isAgg140
  z146 := Tryz.sizeOf140
  v146 := Tryz.zeroValue140
  t148 := Tryz.underlying143
  a148 := Tryz.isAgg143
  z148 := Tryz.sizeOf143
  v148 := Tryz.zeroValue143
  t164 := Tryz.underlying166
  a164 := Tryz.isAgg166
  z164 := Tryz.sizeOf166
  v164 := Tryz.zeroValue166
theorem Tryz.extraRep : Builder.Extra Tryz.prog Tryz.laysRep_ren where
  sizeBuilder := by kernel_rfl
  liesBuilder := by kernel_rfl
  t5 := Tryz.underlying5
  a5 := Tryz.isAgg5
  z5 := Tryz.sizeOf5
  v5 := Tryz.zeroValue5
  infoByte := by kernel_rfl
  cellsByte := by kernel_rfl
  sizeByte := by kernel_rfl
  neB5 := by decide
namespace YtgpmofpemhfboaaGreatDoor.suits
open Go.RowKit Go.Fs

noncomputable def tellRep (args : List AV) (h : AH) : Option (AV × AH) :=
  match args with
  | [.str s, .int .i64 (.ofNat c)] => if s.length * c ≤ 1048576 ∧ c ≤ 1048576 then some (.str (Lib.repeatL s c), h) else none
  | _ => none

noncomputable def orcR : Orc := fun f => match orc f with
  | some s => some s
  | none => match Nat.beq f 16 with
    | true => some tellRep
    | false => none

theorem goodR : GoodOrc Tryz.prog orcR := by
  intro f s hs args h v h' hv
  unfold orcR at hs
  split at hs
  · rename_i s' he
    cases hs
    exact good f _ he args h v h' hv
  · split at hs
    · rename_i hf
      cases hs
      obtain rfl := Nat.eq_of_beq_eq_true hf
      unfold tellRep at hv
      split at hv
      · rename_i str c
        split at hv
        · rename_i hb
          cases hv
          refine .inl ⟨body_of (by kernel_rfl), fun ι w rargs r ha => ?_⟩
          obtain ⟨rx, ry, rfl, h1, h2⟩ := two_rel' ha
          rw [str_of h1, int_of h2]
          have main := Any.strings_Repeat Tryz.laysRep Tryz.extraRep ⟨str.toArray⟩ c w (by omega) (by
            have : (⟨str.toArray⟩ : ByteArray).size = str.length := by simp [ByteArray.size]
            rw [this]; omega)
          refine (show Calls Tryz.prog 16 [Value.string ⟨str.toArray⟩, Value.int .i64 (c : Int)].toArray w _ from main).mono fun e w' ⟨he, hb⟩ => ?_
          exact ⟨ι, _, he, by simp [VRel], r.later fun k hk => hb.block k hk, below_stp hb⟩
        · cases hv
      · cases hv
    · cases hs
end YtgpmofpemhfboaaGreatDoor.suits
end Go.Proofs
