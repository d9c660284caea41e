/- strings.Trim, told ahead of the machine: the shelf's contract. -/
import Derived.Test.YtdehfehdaiappaaGreatDoorZdSeatOrc
import Derived.Shelf.Strings.SlTrimAscii
namespace Go.Proofs
open Go.Shelf
def Tryz.laysTrim_ren : Go.Shelf.Ren := ⟨fun | 119 => 157 | 120 => 149 | 137 => 156 | 151 => 125 | 152 => 148 | 160 => 79 | 197 => 124 | 217 => 127 | 224 => 129 | 225 => 128 | 227 => 100 | 228 => 123 | 231 => 98 | 232 => 99 | 233 => 101 | 234 => 102 | 235 => 103 | 236 => 104 | 260 => 147 | 266 => 150 | 271 => 126 | n => n, fun | 46 => 180 | 105 => 175 | 116 => 145 | 117 => 146 | 119 => 137 | 124 => 149 | 138 => 216 | 139 => 217 | n => n, fun | 3 => 7 | 4 => 8 | n => n⟩
theorem Tryz.laysTrim : Go.Proofs.Lays.n160 Tryz.prog Tryz.laysTrim_ren where
  mixed := by kernel_rfl
  f119 := Tryz.func157.trans (congrArg some (by kernel_rfl))
  f120 := Tryz.func149.trans (congrArg some (by kernel_rfl))
  f137 := Tryz.func156.trans (congrArg some (by kernel_rfl))
  f151 := Tryz.func125.trans (congrArg some (by kernel_rfl))
  f152 := Tryz.func148.trans (congrArg some (by kernel_rfl))
  f160 := Tryz.func79.trans (congrArg some (by kernel_rfl))
  f197 := Tryz.func124.trans (congrArg some (by kernel_rfl))
  f217 := Tryz.func127.trans (congrArg some (by kernel_rfl))
  f224 := Tryz.func129.trans (congrArg some (by kernel_rfl))
  f225 := Tryz.func128.trans (congrArg some (by kernel_rfl))
  f227 := Tryz.func100.trans (congrArg some (by kernel_rfl))
  f228 := Tryz.func123.trans (congrArg some (by kernel_rfl))
  f231 := Tryz.func98.trans (congrArg some (by kernel_rfl))
  f232 := Tryz.func99.trans (congrArg some (by kernel_rfl))
  f233 := Tryz.func101.trans (congrArg some (by kernel_rfl))
  f234 := Tryz.func102.trans (congrArg some (by kernel_rfl))
  f235 := Tryz.func103.trans (congrArg some (by kernel_rfl))
  f236 := Tryz.func104.trans (congrArg some (by kernel_rfl))
  f260 := Tryz.func147.trans (congrArg some (by kernel_rfl))
  f266 := Tryz.func150.trans (congrArg some (by kernel_rfl))
  f271 := Tryz.func126.trans (congrArg some (by kernel_rfl))
  t0 := Tryz.underlying0
  a0 := Tryz.isAgg0
  z0 := Tryz.sizeOf0
  v0 := Tryz.zeroValue0
  t3 := Tryz.underlying3
  a3 := Tryz.isAgg3
  z3 := Tryz.sizeOf3
  v3 := Tryz.zeroValue3
  t4 := Tryz.underlying4
  a4 := Tryz.isAgg4
  z4 := Tryz.sizeOf4
  v4 := Tryz.zeroValue4
  t5 := Tryz.underlying5
  a5 := Tryz.isAgg5
  z5 := Tryz.sizeOf5
  v5 := Tryz.zeroValue5
  t9 := Tryz.underlying9
  a9 := Tryz.isAgg9
  z9 := Tryz.sizeOf9
  v9 := Tryz.zeroValue9
  t21 := Tryz.underlying21
  a21 := Tryz.isAgg21
  z21 := Tryz.sizeOf21
  v21 := Tryz.zeroValue21
  t46 := Tryz.underlying180
  a46 := Tryz.isAgg180
  z46 := Tryz.sizeOf180
  v46 := Tryz.zeroValue180
  t105 := Tryz.underlying175
  a105 := Tryz.isAgg175
  z105 := Tryz.sizeOf175
  v105 := Tryz.zeroValue175
  t116 := Tryz.underlying145
  a116 := Tryz.isAgg145
  z116 := Tryz.sizeOf145
  t117 := Tryz.underlying146
  a117 := Tryz.isAgg146
  z117 := Tryz.sizeOf146
  v117 := Tryz.zeroValue146
  t119 := Tryz.underlying137
  a119 := Tryz.isAgg137
  z119 := Tryz.sizeOf137
  t124 := Tryz.underlying149
  a124 := Tryz.isAgg149
  z124 := Tryz.sizeOf149
  v124 := Tryz.zeroValue149
  t138 := Tryz.underlying216
  a138 := Tryz.isAgg216
  z138 := Tryz.sizeOf216
  v138 := Tryz.zeroValue216
  t139 := Tryz.underlying217
  a139 := Tryz.isAgg217
  z139 := Tryz.sizeOf217
  v139 := Tryz.zeroValue217
  g3 := by kernel_rfl
  g4 := by kernel_rfl
namespace YtdehfehdaiappaaGreatDoor.suits
open Go.RowKit Go.Fs

noncomputable def tellTrim (args : List AV) (h : AH) : Option (AV × AH) :=
  match args with
  | [.str a, .str b] => if a.length ≤ 1048576 ∧ b.length ≤ 1000 ∧ b.all (fun c => decide (c.toNat < 128)) = true then some (.str (Lib.trimS a b), h) else none
  | _ => none

noncomputable def orcT : Orc := fun f => match Nat.beq f 79 with
  | true => some tellTrim
  | false => orc f

theorem goodT : GoodOrc Tryz.prog orcT := by
  intro f s hs args h v h' hv
  unfold orcT at hs
  split at hs
  · rename_i hf
    cases hs
    obtain rfl := Nat.eq_of_beq_eq_true hf
    unfold tellTrim at hv
    split at hv
    · rename_i a b
      split at hv
      · rename_i hb
        cases hv
        refine .inl ⟨body_of (by kernel_rfl), fun ι w rargs r ha => ?_⟩
        obtain ⟨rx, ry, rfl, h1, h2⟩ := two_rel' ha
        rw [str_of h1, str_of h2]
        have e1 : (⟨a.toArray⟩ : ByteArray).size = a.length := by simp [ByteArray.size]
        have e2 : (⟨b.toArray⟩ : ByteArray).size = b.length := by simp [ByteArray.size]
        have main := Any.strings_Trim_laid Tryz.laysTrim (by kernel_rfl) ⟨a.toArray⟩ ⟨b.toArray⟩ w (by omega) (by omega) (by
          have := ascii_of_all hb.2.2
          simpa using this)
        refine (show Calls Tryz.prog 79 [Value.string ⟨a.toArray⟩, Value.string ⟨b.toArray⟩].toArray w _ from main).mono fun e w' ⟨he, hw⟩ => ?_
        exact ⟨ι, _, he, by simp [VRel], r.later fun k hk => hw.block k hk, below_stp hw⟩
      · cases hv
    · cases hv
  · exact good f s hs args h v h' hv
end YtdehfehdaiappaaGreatDoor.suits
end Go.Proofs
