/- strings.Trim, told ahead of the machine: the shelf's contract. -/
import Derived.Test.YtlppecefalblmaaGreatDoorZtSeatOrc
import Derived.Shelf.Strings.SlTrimAscii
namespace Go.Proofs
open Go.Shelf
def Tryz.laysTrim_ren : Go.Shelf.Ren := ⟨fun | 119 => 192 | 120 => 186 | 137 => 191 | 151 => 172 | 152 => 185 | 160 => 131 | 197 => 171 | 217 => 163 | 224 => 165 | 225 => 164 | 227 => 151 | 228 => 170 | 231 => 149 | 232 => 150 | 233 => 152 | 234 => 153 | 235 => 154 | 236 => 155 | 260 => 184 | 266 => 180 | 271 => 173 | n => n, fun | 46 => 158 | 105 => 202 | 116 => 178 | 117 => 179 | 119 => 189 | 124 => 182 | 138 => 234 | 139 => 235 | n => n, fun | 3 => 7 | 4 => 8 | n => n⟩
theorem Tryz.laysTrim : Go.Proofs.Lays.n160 Tryz.prog Tryz.laysTrim_ren where
 mixed := by kernel_rfl
 f119 := Tryz.func192.trans (congrArg some (by kernel_rfl))
 f120 := Tryz.func186.trans (congrArg some (by kernel_rfl))
 f137 := Tryz.func191.trans (congrArg some (by kernel_rfl))
 f151 := Tryz.func172.trans (congrArg some (by kernel_rfl))
 f152 := Tryz.func185.trans (congrArg some (by kernel_rfl))
 f160 := Tryz.func131.trans (congrArg some (by kernel_rfl))
 f197 := Tryz.func171.trans (congrArg some (by kernel_rfl))
 f217 := Tryz.func163.trans (congrArg some (by kernel_rfl))
 f224 := Tryz.func165.trans (congrArg some (by kernel_rfl))
 f225 := Tryz.func164.trans (congrArg some (by kernel_rfl))
 f227 := Tryz.func151.trans (congrArg some (by kernel_rfl))
 f228 := Tryz.func170.trans (congrArg some (by kernel_rfl))
 f231 := Tryz.func149.trans (congrArg some (by kernel_rfl))
 f232 := Tryz.func150.trans (congrArg some (by kernel_rfl))
 f233 := Tryz.func152.trans (congrArg some (by kernel_rfl))
 f234 := Tryz.func153.trans (congrArg some (by kernel_rfl))
 f235 := Tryz.func154.trans (congrArg some (by kernel_rfl))
 f236 := Tryz.func155.trans (congrArg some (by kernel_rfl))
 f260 := Tryz.func184.trans (congrArg some (by kernel_rfl))
 f266 := Tryz.func180.trans (congrArg some (by kernel_rfl))
 f271 := Tryz.func173.trans (congrArg some (by kernel_rfl))
 t0 := Tryz.underlying0
 a0 := Tryz.isAgg0
 z0 := Tryz.sizeOf0
 v0 := Tryz.zeroValue0
 t3 := Tryz.underlying3
 a3 := Tryz.isAgg3
 z3 := Tryz.sizeOf3
 v3 := Tryz.zeroValue3
 t4 := Tryz.underlying4
 a4 := Tryz.isAgg4
 z4 := Tryz.sizeOf4
 v4 := Tryz.zeroValue4
 t5 := Tryz.underlying5
 a5 := Tryz.isAgg5
 z5 := Tryz.sizeOf5
 v5 := Tryz.zeroValue5
 t9 := Tryz.underlying9
 a9 := Tryz.isAgg9
 z9 := Tryz.sizeOf9
 v9 := Tryz.zeroValue9
 t21 := Tryz.underlying21
 a21 := Tryz.isAgg21
 z21 := Tryz.sizeOf21
 v21 := Tryz.zeroValue21
 t46 := Tryz.underlying158
 a46 := Tryz.isAgg158
 z46 := Tryz.sizeOf158
 v46 := Tryz.zeroValue158
 t105 := Tryz.underlying202
 a105 := Tryz.isAgg202
 z105 := Tryz.sizeOf202
 v105 := Tryz.zeroValue202
 t116 := Tryz.underlying178
 a116 := Tryz.isAgg178
 z116 := Tryz.sizeOf178
 t117 := Tryz.underlying179
 a117 := Tryz.isAgg179
 z117 := Tryz.sizeOf179
 v117 := Tryz.zeroValue179
 t119 := Tryz.underlying189
 a119 := Tryz.isAgg189
 z119 := Tryz.sizeOf189
 t124 := Tryz.underlying182
 a124 := Tryz.isAgg182
 z124 := Tryz.sizeOf182
 v124 := Tryz.zeroValue182
 t138 := Tryz.underlying234
 a138 := Tryz.isAgg234
 z138 := Tryz.sizeOf234
 v138 := Tryz.zeroValue234
 t139 := Tryz.underlying235
 a139 := Tryz.isAgg235
 z139 := Tryz.sizeOf235
 v139 := Tryz.zeroValue235
 g3 := by kernel_rfl
 g4 := by kernel_rfl
namespace YtlppecefalblmaaGreatDoor.suits
open Go.RowKit Go.Fs
noncomputable def tellTrim (args : List AV) (h : AH) : Option (AV × AH) :=
 match args with
 | [.str a, .str b] => if a.length ≤ 1048576 ∧ b.length ≤ 1000 ∧ b.all (fun c => decide (c.toNat < 128)) = true then some (.str (Lib.trimS a b), h) else none
 | _ => none
noncomputable def orcT : Orc := fun f => match Nat.beq f 131 with
 | true => some tellTrim
 | false => orc f
theorem goodT : GoodOrc Tryz.prog orcT := by
 intro f s hs args h v h' hv
 unfold orcT at hs
 split at hs
 · rename_i hf
   cases hs
   obtain rfl := Nat.eq_of_beq_eq_true hf
   unfold tellTrim at hv
   split at hv
   · rename_i a b
     split at hv
     · rename_i hb
       cases hv
       refine .inl ⟨body_of (by kernel_rfl), fun ι w rargs r ha => ?_⟩
       obtain ⟨rx, ry, rfl, h1, h2⟩ := two_rel' ha
       rw [str_of h1, str_of h2]
       have e1 : (⟨a.toArray⟩ : ByteArray).size = a.length := by simp [ByteArray.size]
       have e2 : (⟨b.toArray⟩ : ByteArray).size = b.length := by simp [ByteArray.size]
       have main := Any.strings_Trim_laid Tryz.laysTrim (by kernel_rfl) ⟨a.toArray⟩ ⟨b.toArray⟩ w (by omega) (by omega) (by
        have := ascii_of_all hb.2.2
        simpa using this)
       refine (show Calls Tryz.prog 131 [Value.string ⟨a.toArray⟩, Value.string ⟨b.toArray⟩].toArray w _ from main).mono fun e w' ⟨he, hw⟩ => ?_
       exact ⟨ι, _, he, by simp [VRel], r.later fun k hk => hw.block k hk, below_stp hw⟩
     · cases hv
   · cases hv
 · exact good f s hs args h v h' hv
end YtlppecefalblmaaGreatDoor.suits
end Go.Proofs
