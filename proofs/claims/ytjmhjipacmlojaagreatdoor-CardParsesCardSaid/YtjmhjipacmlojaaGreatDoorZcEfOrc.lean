/- strings.Trim, told ahead of the machine: the shelf's contract. -/
import Derived.Test.YtjmhjipacmlojaaGreatDoorZcSeatOrc
import Derived.Shelf.Strings.SlTrimAscii
namespace Go.Proofs
open Go.Shelf
def Tryz.laysTrim_ren : Go.Shelf.Ren := ⟨fun | 119 => 179 | 120 => 173 | 137 => 178 | 151 => 156 | 152 => 172 | 160 => 109 | 197 => 149 | 217 => 158 | 224 => 160 | 225 => 159 | 227 => 135 | 228 => 155 | 231 => 133 | 232 => 134 | 233 => 136 | 234 => 137 | 235 => 138 | 236 => 139 | 260 => 167 | 266 => 174 | 271 => 157 | n => n, fun | 46 => 134 | 105 => 170 | 116 => 156 | 117 => 157 | 119 => 144 | 124 => 160 | 138 => 212 | 139 => 213 | n => n, fun | 3 => 7 | 4 => 8 | n => n⟩
theorem Tryz.laysTrim : Go.Proofs.Lays.n160 Tryz.prog Tryz.laysTrim_ren where
 mixed := by kernel_rfl
 f119 := Tryz.func179.trans (congrArg some (by kernel_rfl))
 f120 := Tryz.func173.trans (congrArg some (by kernel_rfl))
 f137 := Tryz.func178.trans (congrArg some (by kernel_rfl))
 f151 := Tryz.func156.trans (congrArg some (by kernel_rfl))
 f152 := Tryz.func172.trans (congrArg some (by kernel_rfl))
 f160 := Tryz.func109.trans (congrArg some (by kernel_rfl))
 f197 := Tryz.func149.trans (congrArg some (by kernel_rfl))
 f217 := Tryz.func158.trans (congrArg some (by kernel_rfl))
 f224 := Tryz.func160.trans (congrArg some (by kernel_rfl))
 f225 := Tryz.func159.trans (congrArg some (by kernel_rfl))
 f227 := Tryz.func135.trans (congrArg some (by kernel_rfl))
 f228 := Tryz.func155.trans (congrArg some (by kernel_rfl))
 f231 := Tryz.func133.trans (congrArg some (by kernel_rfl))
 f232 := Tryz.func134.trans (congrArg some (by kernel_rfl))
 f233 := Tryz.func136.trans (congrArg some (by kernel_rfl))
 f234 := Tryz.func137.trans (congrArg some (by kernel_rfl))
 f235 := Tryz.func138.trans (congrArg some (by kernel_rfl))
 f236 := Tryz.func139.trans (congrArg some (by kernel_rfl))
 f260 := Tryz.func167.trans (congrArg some (by kernel_rfl))
 f266 := Tryz.func174.trans (congrArg some (by kernel_rfl))
 f271 := Tryz.func157.trans (congrArg some (by kernel_rfl))
 t0 := Tryz.underlying0
 a0 := Tryz.isAgg0
 z0 := Tryz.sizeOf0
 v0 := Tryz.zeroValue0
 t3 := Tryz.underlying3
 a3 := Tryz.isAgg3
 z3 := Tryz.sizeOf3
 v3 := Tryz.zeroValue3
 t4 := Tryz.underlying4
 a4 := Tryz.isAgg4
 z4 := Tryz.sizeOf4
 v4 := Tryz.zeroValue4
 t5 := Tryz.underlying5
 a5 := Tryz.isAgg5
 z5 := Tryz.sizeOf5
 v5 := Tryz.zeroValue5
 t9 := Tryz.underlying9
 a9 := Tryz.isAgg9
 z9 := Tryz.sizeOf9
 v9 := Tryz.zeroValue9
 t21 := Tryz.underlying21
 a21 := Tryz.isAgg21
 z21 := Tryz.sizeOf21
 v21 := Tryz.zeroValue21
 t46 := Tryz.underlying134
 a46 := Tryz.isAgg134
 z46 := Tryz.sizeOf134
 v46 := Tryz.zeroValue134
 t105 := Tryz.underlying170
 a105 := Tryz.isAgg170
 z105 := Tryz.sizeOf170
 v105 := Tryz.zeroValue170
 t116 := Tryz.underlying156
 a116 := Tryz.isAgg156
 z116 := Tryz.sizeOf156
 t117 := Tryz.underlying157
 a117 := Tryz.isAgg157
 z117 := Tryz.sizeOf157
 v117 := Tryz.zeroValue157
 t119 := Tryz.underlying144
 a119 := Tryz.isAgg144
 z119 := Tryz.sizeOf144
 t124 := Tryz.underlying160
 a124 := Tryz.isAgg160
 z124 := Tryz.sizeOf160
 v124 := Tryz.zeroValue160
 t138 := Tryz.underlying212
 a138 := Tryz.isAgg212
 z138 := Tryz.sizeOf212
 v138 := Tryz.zeroValue212
 t139 := Tryz.underlying213
 a139 := Tryz.isAgg213
 z139 := Tryz.sizeOf213
 v139 := Tryz.zeroValue213
 g3 := by kernel_rfl
 g4 := by kernel_rfl
namespace YtjmhjipacmlojaaGreatDoor.suits
open Go.RowKit Go.Fs
noncomputable def tellTrim (args : List AV) (h : AH) : Option (AV × AH) :=
 match args with
 | [.str a, .str b] => if a.length ≤ 1048576 ∧ b.length ≤ 1000 ∧ b.all (fun c => decide (c.toNat < 128)) = true then some (.str (Lib.trimS a b), h) else none
 | _ => none
noncomputable def orcT : Orc := fun f => match Nat.beq f 109 with
 | true => some tellTrim
 | false => orc f
theorem goodT : GoodOrc Tryz.prog orcT := by
 intro f s hs args h v h' hv
 unfold orcT at hs
 split at hs
 · rename_i hf
   cases hs
   obtain rfl := Nat.eq_of_beq_eq_true hf
   unfold tellTrim at hv
   split at hv
   · rename_i a b
     split at hv
     · rename_i hb
       cases hv
       refine .inl ⟨body_of (by kernel_rfl), fun ι w rargs r ha => ?_⟩
       obtain ⟨rx, ry, rfl, h1, h2⟩ := two_rel' ha
       rw [str_of h1, str_of h2]
       have e1 : (⟨a.toArray⟩ : ByteArray).size = a.length := by simp [ByteArray.size]
       have e2 : (⟨b.toArray⟩ : ByteArray).size = b.length := by simp [ByteArray.size]
       have main := Any.strings_Trim_laid Tryz.laysTrim (by kernel_rfl) ⟨a.toArray⟩ ⟨b.toArray⟩ w (by omega) (by omega) (by
        have := ascii_of_all hb.2.2
        simpa using this)
       refine (show Calls Tryz.prog 109 [Value.string ⟨a.toArray⟩, Value.string ⟨b.toArray⟩].toArray w _ from main).mono fun e w' ⟨he, hw⟩ => ?_
       exact ⟨ι, _, he, by simp [VRel], r.later fun k hk => hw.block k hk, below_stp hw⟩
     · cases hv
   · cases hv
 · exact good f s hs args h v h' hv
end YtjmhjipacmlojaaGreatDoor.suits
end Go.Proofs
