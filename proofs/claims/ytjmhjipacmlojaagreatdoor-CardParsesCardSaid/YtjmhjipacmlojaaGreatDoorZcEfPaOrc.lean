/- strings.Split and strconv.Atoi, told ahead of the machine: the shelf's contracts. -/
import Derived.Test.YtjmhjipacmlojaaGreatDoorZcEfPrOrc
import Derived.Test.YtjmhjipacmlojaaGreatDoorFz06
import Derived.Shelf.Strings.Split
import Derived.Shelf.Strconv.AtoiAll
namespace Go.Proofs
open Go.Shelf
def Tryz.laysSplit_ren : Go.Shelf.Ren := ⟨fun | 138 => 123 | 143 => 124 | 146 => 50 | 195 => 148 | 197 => 149 | 217 => 158 | 218 => 150 | 219 => 140 | 221 => 97 | 224 => 160 | 225 => 159 | 260 => 167 | 266 => 174 | 267 => 161 | 268 => 122 | 314 => 175 | n => n, fun | 31 => 63 | 46 => 134 | 51 => 176 | 105 => 170 | 119 => 144 | 138 => 212 | 139 => 213 | 146 => 208 | n => n, fun | 1 => 5 | 3 => 7 | 4 => 8 | n => n⟩
theorem Tryz.laysSplit : Go.Proofs.Lays.n146 Tryz.prog Tryz.laysSplit_ren where
 mixed := by kernel_rfl
 f138 := Tryz.func123.trans (congrArg some (by kernel_rfl))
 f143 := Tryz.func124.trans (congrArg some (by kernel_rfl))
 f146 := Tryz.func50.trans (congrArg some (by kernel_rfl))
 f195 := Tryz.func148.trans (congrArg some (by kernel_rfl))
 f197 := Tryz.func149.trans (congrArg some (by kernel_rfl))
 f217 := Tryz.func158.trans (congrArg some (by kernel_rfl))
 f218 := Tryz.func150.trans (congrArg some (by kernel_rfl))
 f219 := Tryz.func140.trans (congrArg some (by kernel_rfl))
 f221 := Tryz.func97.trans (congrArg some (by kernel_rfl))
 f224 := Tryz.func160.trans (congrArg some (by kernel_rfl))
 f225 := Tryz.func159.trans (congrArg some (by kernel_rfl))
 f260 := Tryz.func167.trans (congrArg some (by kernel_rfl))
 f266 := Tryz.func174.trans (congrArg some (by kernel_rfl))
 f267 := Tryz.func161.trans (congrArg some (by kernel_rfl))
 f268 := Tryz.func122.trans (congrArg some (by kernel_rfl))
 f314 := Tryz.func175.trans (congrArg some (by kernel_rfl))
 t0 := Tryz.underlying0
 a0 := Tryz.isAgg0
 z0 := Tryz.sizeOf0
 v0 := Tryz.zeroValue0
 t3 := Tryz.underlying3
 a3 := Tryz.isAgg3
 z3 := Tryz.sizeOf3
 v3 := Tryz.zeroValue3
 t4 := Tryz.underlying4
 a4 := Tryz.isAgg4
 z4 := Tryz.sizeOf4
 v4 := Tryz.zeroValue4
 t5 := Tryz.underlying5
 a5 := Tryz.isAgg5
 z5 := Tryz.sizeOf5
 v5 := Tryz.zeroValue5
 t9 := Tryz.underlying9
 a9 := Tryz.isAgg9
 z9 := Tryz.sizeOf9
 v9 := Tryz.zeroValue9
 t21 := Tryz.underlying21
 a21 := Tryz.isAgg21
 z21 := Tryz.sizeOf21
 v21 := Tryz.zeroValue21
 t31 := Tryz.underlying63
 a31 := Tryz.isAgg63
 z31 := Tryz.sizeOf63
 v31 := Tryz.zeroValue63
 t46 := Tryz.underlying134
 a46 := Tryz.isAgg134
 z46 := Tryz.sizeOf134
 v46 := Tryz.zeroValue134
 t51 := Tryz.underlying176
 a51 := Tryz.isAgg176
 z51 := Tryz.sizeOf176
 v51 := Tryz.zeroValue176
 t105 := Tryz.underlying170
 a105 := Tryz.isAgg170
 z105 := Tryz.sizeOf170
 v105 := Tryz.zeroValue170
 t119 := Tryz.underlying144
 a119 := Tryz.isAgg144
 z119 := Tryz.sizeOf144
 t138 := Tryz.underlying212
 a138 := Tryz.isAgg212
 z138 := Tryz.sizeOf212
 v138 := Tryz.zeroValue212
 t139 := Tryz.underlying213
 a139 := Tryz.isAgg213
 z139 := Tryz.sizeOf213
 v139 := Tryz.zeroValue213
 t146 := Tryz.underlying208
 a146 := Tryz.isAgg208
 z146 := Tryz.sizeOf208
 v146 := Tryz.zeroValue208
 g1 := by kernel_rfl
 g3 := by kernel_rfl
 g4 := by kernel_rfl
def Tryz.laysAtoi_ren : Go.Shelf.Ren := ⟨fun | 129 => 163 | 171 => 32 | 172 => 55 | 205 => 154 | 243 => 77 | 244 => 99 | 245 => 100 | 246 => 115 | 247 => 127 | 279 => 128 | 280 => 129 | 281 => 130 | 282 => 131 | 283 => 142 | 284 => 143 | 285 => 144 | 286 => 145 | 287 => 152 | 316 => 153 | 317 => 162 | 318 => 164 | 319 => 165 | 320 => 166 | 321 => 170 | 322 => 171 | 337 => 176 | 338 => 177 | n => n, fun | 37 => 109 | 46 => 134 | 51 => 176 | 53 => 162 | 75 => 81 | 76 => 82 | 80 => 113 | 85 => 148 | 127 => 137 | 143 => 204 | 145 => 206 | 167 => 147 | 168 => 150 | 171 => 161 | 173 => 165 | 175 => 179 | 210 => 183 | 212 => 189 | 213 => 190 | 232 => 216 | 233 => 217 | n => n, fun | 15 => 3 | 16 => 4 | 17 => 6 | 18 => 9 | 19 => 10 | n => n⟩
theorem Tryz.laysAtoi : Go.Proofs.LaysC.n172 Tryz.prog Tryz.laysAtoi_ren where
 mixed := by kernel_rfl
 f129 := Tryz.func163.trans (congrArg some (by kernel_rfl))
 f171 := Tryz.func32.trans (congrArg some (by kernel_rfl))
 f172 := Tryz.func55.trans (congrArg some (by kernel_rfl))
 f205 := Tryz.func154.trans (congrArg some (by kernel_rfl))
 f243 := Tryz.func77.trans (congrArg some (by kernel_rfl))
 f244 := Tryz.func99.trans (congrArg some (by kernel_rfl))
 f245 := Tryz.func100.trans (congrArg some (by kernel_rfl))
 f246 := Tryz.func115.trans (congrArg some (by kernel_rfl))
 f247 := Tryz.func127.trans (congrArg some (by kernel_rfl))
 f279 := Tryz.func128.trans (congrArg some (by kernel_rfl))
 f280 := Tryz.func129.trans (congrArg some (by kernel_rfl))
 f281 := Tryz.func130.trans (congrArg some (by kernel_rfl))
 f282 := Tryz.func131.trans (congrArg some (by kernel_rfl))
 f283 := Tryz.func142.trans (congrArg some (by kernel_rfl))
 f284 := Tryz.func143.trans (congrArg some (by kernel_rfl))
 f285 := Tryz.func144.trans (congrArg some (by kernel_rfl))
 f286 := Tryz.func145.trans (congrArg some (by kernel_rfl))
 f287 := Tryz.func152.trans (congrArg some (by kernel_rfl))
 f316 := Tryz.func153.trans (congrArg some (by kernel_rfl))
 f317 := Tryz.func162.trans (congrArg some (by kernel_rfl))
 f318 := Tryz.func164.trans (congrArg some (by kernel_rfl))
 f319 := Tryz.func165.trans (congrArg some (by kernel_rfl))
 f320 := Tryz.func166.trans (congrArg some (by kernel_rfl))
 f321 := Tryz.func170.trans (congrArg some (by kernel_rfl))
 f322 := Tryz.func171.trans (congrArg some (by kernel_rfl))
 f337 := Tryz.func176.trans (congrArg some (by kernel_rfl))
 f338 := Tryz.func177.trans (congrArg some (by kernel_rfl))
 t0 := Tryz.underlying0
 a0 := Tryz.isAgg0
 z0 := Tryz.sizeOf0
 v0 := Tryz.zeroValue0
 t2 := Tryz.underlying2
 a2 := Tryz.isAgg2
 z2 := Tryz.sizeOf2
 v2 := Tryz.zeroValue2
 t3 := Tryz.underlying3
 a3 := Tryz.isAgg3
 z3 := Tryz.sizeOf3
 v3 := Tryz.zeroValue3
 t4 := Tryz.underlying4
 a4 := Tryz.isAgg4
 z4 := Tryz.sizeOf4
 v4 := Tryz.zeroValue4
 t5 := Tryz.underlying5
 a5 := Tryz.isAgg5
 z5 := Tryz.sizeOf5
 v5 := Tryz.zeroValue5
 t9 := Tryz.underlying9
 a9 := Tryz.isAgg9
 z9 := Tryz.sizeOf9
 v9 := Tryz.zeroValue9
 t20 := Tryz.underlying20
 a20 := Tryz.isAgg20
 z20 := Tryz.sizeOf20
 v20 := Tryz.zeroValue20
 t21 := Tryz.underlying21
 a21 := Tryz.isAgg21
 z21 := Tryz.sizeOf21
 v21 := Tryz.zeroValue21
 t37 := Tryz.underlying109
 a37 := Tryz.isAgg109
 z37 := Tryz.sizeOf109
 v37 := Tryz.zeroValue109
 t46 := Tryz.underlying134
 a46 := Tryz.isAgg134
 z46 := Tryz.sizeOf134
 v46 := Tryz.zeroValue134
 t51 := Tryz.underlying176
 a51 := Tryz.isAgg176
 z51 := Tryz.sizeOf176
 v51 := Tryz.zeroValue176
 t53 := Tryz.underlying162
 a53 := Tryz.isAgg162
 z53 := Tryz.sizeOf162
 v53 := Tryz.zeroValue162
 t75 := Tryz.underlying81
 a75 := Tryz.isAgg81
 z75 := Tryz.sizeOf81
 v75 := Tryz.zeroValue81
 t76 := Tryz.underlying82
 a76 := Tryz.isAgg82
 z76 := Tryz.sizeOf82
 v76 := Tryz.zeroValue82
 t85 := Tryz.underlying148
 a85 := Tryz.isAgg148
 z85 := Tryz.sizeOf148
 v85 := Tryz.zeroValue148
 t127 := Tryz.underlying137
 a127 := Tryz.isAgg137
 z127 := Tryz.sizeOf137
 v127 := Tryz.zeroValue137
 t143 := Tryz.underlying204
 a143 := Tryz.isAgg204
 z143 := Tryz.sizeOf204
 v143 := Tryz.zeroValue204
 t145 := Tryz.underlying206
 a145 := Tryz.isAgg206
 z145 := Tryz.sizeOf206
 v145 := Tryz.zeroValue206
 t167 := Tryz.underlying147
 a167 := Tryz.isAgg147
 z167 := Tryz.sizeOf147
 v167 := Tryz.zeroValue147
 t168 := Tryz.underlying150
 a168 := Tryz.isAgg150
 z168 := Tryz.sizeOf150
 v168 := Tryz.zeroValue150
 t171 := Tryz.underlying161
 a171 := Tryz.isAgg161
 z171 := Tryz.sizeOf161
 v171 := Tryz.zeroValue161
 t173 := Tryz.underlying165
 a173 := Tryz.isAgg165
 z173 := Tryz.sizeOf165
 v173 := Tryz.zeroValue165
 t175 := Tryz.underlying179
 a175 := Tryz.isAgg179
 z175 := Tryz.sizeOf179
 v175 := Tryz.zeroValue179
 t210 := Tryz.underlying183
 a210 := Tryz.isAgg183
 z210 := Tryz.sizeOf183
 v210 := Tryz.zeroValue183
 t212 := Tryz.underlying189
 a212 := Tryz.isAgg189
 z212 := Tryz.sizeOf189
 v212 := Tryz.zeroValue189
 t213 := Tryz.underlying190
 a213 := Tryz.isAgg190
 z213 := Tryz.sizeOf190
 t232 := Tryz.underlying216
 a232 := Tryz.isAgg216
 z232 := Tryz.sizeOf216
 v232 := Tryz.zeroValue216
 t233 := Tryz.underlying217
 a233 := Tryz.isAgg217
 z233 := Tryz.sizeOf217
 v233 := Tryz.zeroValue217
 g15 := by kernel_rfl
 g16 := by kernel_rfl
 g17 := by kernel_rfl
 g18 := by kernel_rfl
 g19 := by kernel_rfl
 t80 := Tryz.underlying113
 a80 := Tryz.isAgg113
 z80 := Tryz.sizeOf113
 v80 := Tryz.zeroValue113
 i0 := by kernel_rfl
 i2 := by kernel_rfl
 i3 := by kernel_rfl
 i4 := by kernel_rfl
 i5 := by kernel_rfl
 i9 := by kernel_rfl
 i20 := by kernel_rfl
 i21 := by kernel_rfl
 i37 := by kernel_rfl
 i46 := by kernel_rfl
 i51 := by kernel_rfl
 i53 := by kernel_rfl
 i75 := by kernel_rfl
 i76 := by kernel_rfl
 i80 := by kernel_rfl
 i85 := by kernel_rfl
 i127 := by kernel_rfl
 i143 := by kernel_rfl
 i145 := by kernel_rfl
 i167 := by kernel_rfl
 i168 := by kernel_rfl
 i171 := by kernel_rfl
 i173 := by kernel_rfl
 i175 := by kernel_rfl
 i210 := by kernel_rfl
 i212 := by kernel_rfl
 i232 := by kernel_rfl
 i233 := by kernel_rfl
 m15 := by kernel_rfl
 m16 := by kernel_rfl
 m17 := by kernel_rfl
 m18 := by kernel_rfl
 m19 := by kernel_rfl
 c0 := by kernel_rfl
 c2 := by kernel_rfl
 c3 := by kernel_rfl
 c4 := by kernel_rfl
 c5 := by kernel_rfl
 c9 := by kernel_rfl
 c20 := by kernel_rfl
 c21 := by kernel_rfl
 c37 := by kernel_rfl
 c46 := by kernel_rfl
 c51 := by kernel_rfl
 c53 := by kernel_rfl
 c75 := by kernel_rfl
 c76 := by kernel_rfl
 c80 := by kernel_rfl
 c85 := by kernel_rfl
 c127 := by kernel_rfl
 c143 := by kernel_rfl
 c145 := by kernel_rfl
 c167 := by kernel_rfl
 c168 := by kernel_rfl
 c171 := by kernel_rfl
 c173 := by kernel_rfl
 c175 := by kernel_rfl
 c210 := by kernel_rfl
 c212 := by kernel_rfl
 c213 := by kernel_rfl
 c232 := by kernel_rfl
 c233 := by kernel_rfl
namespace YtjmhjipacmlojaaGreatDoor.suits
open Go.RowKit Go.Fs
def atoiV (s : List UInt8) : Int := match Lib.atoiAll s with
 | .ok v => v
 | .range => Lib.atoiSat s
 | _ => 0
open Classical in
noncomputable def tellSplit (args : List AV) (h : AH) : Option (AV × AH) :=
 match args with
 | [.str a, .str b] => if a.length < 4294967281 ∧ 1 ≤ b.length ∧ (∃ m, readCell h (Tryz.laysSplit_ren.g 1) 0 = some (.int .i64 m)) then
     some (.slice (some (h.n, 0)) (Lib.split a b).length (.exact (Lib.split a b).length), h.push (.cells ((Lib.split a b).map AV.str) false)) else none
 | _ => none
open Classical in
noncomputable def tellAtoi (args : List AV) (h : AH) : Option (AV × AH) :=
 match args with
 | [.str s] => if s.length ≤ 281474976710656 ∧ (∃ u x, readCell h (Tryz.laysAtoi_ren.g 15) 0 = some (.iface u x)) ∧ (∃ u x, readCell h (Tryz.laysAtoi_ren.g 16) 0 = some (.iface u x)) then
     some (.tuple [.int .i64 (atoiV s), .junk true], h) else none
 | _ => none
theorem split_data (a b : List UInt8) : (Lib.splitB ⟨b.toArray⟩ 0 (Lib.countB ⟨a.toArray⟩ ⟨b.toArray⟩) ⟨a.toArray⟩).map Value.string = (Lib.split a b).map fun l => Value.string ⟨l.toArray⟩ := by
 have e1 := Lib.splitB_data ⟨b.toArray⟩ 0 (Lib.countB ⟨a.toArray⟩ ⟨b.toArray⟩) ⟨a.toArray⟩
 simp only at e1
 have e2 : Lib.countB ⟨a.toArray⟩ ⟨b.toArray⟩ = Lib.count a b := by unfold Lib.countB; simp
 unfold Lib.split
 rw [← e2, ← e1, List.map_map]
 apply List.map_congr_left
 intro x _
 simp
theorem tup_junk {ι : Emb} {n : Int} {v : Value} (h1 : v.cells = #[v]) (h2 : ∀ b, v ≠ .bool b) (h3 : v.oneCell' = true) : VRel ι (.tuple [.int .i64 n, .junk true]) (.tuple #[.int .i64 n, v]) := by
 simp only [VRel, VRels]
 exact ⟨_, rfl, _, [v], by simp, rfl, _, [], rfl, ⟨h1, h2, fun _ => h3⟩, rfl⟩
variable {orc0 : Orc}
noncomputable def orcSA (orc0 : Orc) : Orc := fun f => match Nat.beq f 50 with
 | true => some tellSplit
 | false => match Nat.beq f 55 with
   | true => some tellAtoi
   | false => orc0 f
theorem goodSA (h0 : GoodOrc Tryz.prog orc0) : GoodOrc Tryz.prog (orcSA orc0) := by
 intro f s hs args h v h' hv
 unfold orcSA at hs
 split at hs
 · rename_i hf
   cases hs
   obtain rfl := Nat.eq_of_beq_eq_true hf
   unfold tellSplit at hv
   split at hv
   · rename_i a b
     split at hv
     · rename_i hb
       obtain ⟨hb1, hb2, m, hb3⟩ := hb
       cases hv
       refine .inl ⟨body_of (by kernel_rfl), fun ι w rargs r ha => ?_⟩
       obtain ⟨rx, ry, rfl, h1, h2⟩ := two_rel' ha
       rw [str_of h1, str_of h2]
       have e1 : (⟨a.toArray⟩ : ByteArray).size = a.length := by simp [ByteArray.size]
       have e2 : (⟨b.toArray⟩ : ByteArray).size = b.length := by simp [ByteArray.size]
       obtain ⟨x, hc, hx⟩ := cell_of r hb3
       have hgl := r.glob (Tryz.laysSplit_ren.g 1) (by show Tryz.laysSplit_ren.g 1 < Tryz.prog.globals.size; exact of_decide_eq_true (by kernel_rfl))
       rw [hgl.1, hgl.2, int_of hx] at hc
       have main := Any.strings_Split Tryz.laysSplit (by kernel_rfl) ⟨a.toArray⟩ ⟨b.toArray⟩ m w (by omega) hc (by omega)
       refine (show Calls Tryz.prog 50 [Value.string ⟨a.toArray⟩, Value.string ⟨b.toArray⟩].toArray w _ from main).mono fun e w' ⟨he, hw⟩ => ?_
       subst hw
       rw [split_data]
       have hl : Lib.countB ⟨a.toArray⟩ ⟨b.toArray⟩ + 1 = (Lib.split a b).length := by
        have e1 := Lib.splitB_all ⟨b.toArray⟩ (by omega) 0 _ ⟨a.toArray⟩ rfl
        rw [← e1, ← List.length_map (f := Value.string), split_data, List.length_map]
       rw [hl] at he
       obtain ⟨r2, st⟩ := new_rel r (Tryz.laysSplit_ren.t 9) (cs := (Lib.split a b).map AV.str) (arr := ((Lib.split a b).map fun l => Value.string ⟨l.toArray⟩).toArray) (by simpa using strs_rel (ι := ι) (Lib.split a b))
       refine ⟨_, _, he, ?_, r2, st⟩
       simp only [VRel, ← r.n]
       exact ⟨by simp [Emb.add], Nat.le_refl _, _, rfl, fun _ => by simp⟩
     · cases hv
   · cases hv
 · split at hs
   · rename_i hf
     cases hs
     obtain rfl := Nat.eq_of_beq_eq_true hf
     unfold tellAtoi at hv
     split at hv
     · rename_i s
       split at hv
       · rename_i hb
         obtain ⟨hb1, ⟨u1, x1, hb2⟩, u2, x2, hb3⟩ := hb
         cases hv
         refine .inl ⟨body_of (by kernel_rfl), fun ι w rargs r ha => ?_⟩
         obtain ⟨rx, rfl, h1⟩ := one_rel' ha
         rw [str_of h1]
         have e1 : (⟨s.toArray⟩ : ByteArray).size = s.length := by simp [ByteArray.size]
         have e2 : (⟨s.toArray⟩ : ByteArray).data.toList = s := by simp
         obtain ⟨y1, hc1, hy1⟩ := cell_of r hb2
         obtain ⟨y2, hc2, hy2⟩ := cell_of r hb3
         have hgl1 := r.glob (Tryz.laysAtoi_ren.g 15) (by show Tryz.laysAtoi_ren.g 15 < Tryz.prog.globals.size; exact of_decide_eq_true (by kernel_rfl))
         have hgl2 := r.glob (Tryz.laysAtoi_ren.g 16) (by show Tryz.laysAtoi_ren.g 16 < Tryz.prog.globals.size; exact of_decide_eq_true (by kernel_rfl))
         rw [hgl1.1, hgl1.2] at hc1
         rw [hgl2.1, hgl2.2] at hc2
         simp only [VRel] at hy1 hy2
         obtain ⟨z1, rfl, _⟩ := hy1
         obtain ⟨z2, rfl, _⟩ := hy2
         cases hr : Lib.atoiAll s with
         | ok v =>
           have main := Any.strconv_Atoi_ok Tryz.laysAtoi ⟨s.toArray⟩ (by omega) v (by rw [e2]; exact hr) w
           refine (show Calls Tryz.prog 55 [Value.string ⟨s.toArray⟩].toArray w _ from main).mono fun e w' ⟨he, hw⟩ => ?_
           have hB : Below w.heap.size w w' := by
            rcases hw with rfl | ⟨t, rfl⟩
            · exact Below.refl _ _
            · exact Lib.bytesWorld_below _ _ _
           refine ⟨ι, _, he, ?_, r.later fun k hk => hB.block k hk, below_stp hB⟩
           rw [show atoiV s = v by unfold atoiV; rw [hr]]
           exact tup_junk rfl (by simp) rfl
         | range =>
           have main := Any.strconv_Atoi_range Tryz.laysAtoi ⟨s.toArray⟩ (by omega) (by rw [e2]; exact hr) _ w hc2 (.inr ⟨_, _, rfl⟩)
           rw [e2] at main
           refine (show Calls Tryz.prog 55 [Value.string ⟨s.toArray⟩].toArray w _ from main).mono fun e w' ⟨N, he, _, _, hB⟩ => ?_
           refine ⟨ι, _, he, ?_, r.later fun k hk => hB.block k hk, below_stp hB⟩
           rw [show atoiV s = Lib.atoiSat s by unfold atoiV; rw [hr]]
           exact tup_junk rfl (by simp) rfl
         | _ =>
           have main := Any.strconv_Atoi_syntax Tryz.laysAtoi ⟨s.toArray⟩ (by omega) (by rw [e2]; exact hr) _ w hc1 (.inr ⟨_, _, rfl⟩)
           refine (show Calls Tryz.prog 55 [Value.string ⟨s.toArray⟩].toArray w _ from main).mono fun e w' ⟨N, he, _, _, hB⟩ => ?_
           refine ⟨ι, _, he, ?_, r.later fun k hk => hB.block k hk, below_stp hB⟩
           rw [show atoiV s = 0 by unfold atoiV; rw [hr]]
           exact tup_junk rfl (by simp) rfl
       · cases hv
     · cases hv
   · exact h0 f s hs args h v h' hv
end YtjmhjipacmlojaaGreatDoor.suits
end Go.Proofs
