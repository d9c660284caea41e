/- strings.Fields and strings.Join, told ahead of the machine: the shelf's contracts; closed calls over a first heap. -/
import Derived.Test.YtlppecefalblmaaGreatDoorZtEfOrc
import Derived.Test.YtlppecefalblmaaGreatDoorFz05
import Derived.Shelf.Strings.OnBuilder
import Derived.Shelf.Strings.Fields
namespace Go.Proofs
open Go.Shelf
def Tryz.laysJoin_ren : Go.Shelf.Ren := ⟨fun | 156 => 44 | 165 => 102 | 166 => 71 | 169 => 72 | 240 => 127 | 241 => 138 | 276 => 142 | 277 => 162 | n => n, fun | 31 => 84 | 37 => 105 | 70 => 104 | 72 => 107 | 75 => 109 | 76 => 110 | 80 => 112 | 127 => 155 | 164 => 167 | n => n, fun | n => n⟩
theorem Tryz.laysJoin : Go.Proofs.Lays.n156 Tryz.prog Tryz.laysJoin_ren where
 mixed := by kernel_rfl
 f156 := Tryz.func44.trans (congrArg some (by kernel_rfl))
 f165 := Tryz.func102.trans (congrArg some (by kernel_rfl))
 f166 := Tryz.func71.trans (congrArg some (by kernel_rfl))
 f169 := Tryz.func72.trans (congrArg some (by kernel_rfl))
 f240 := Tryz.func127.trans (congrArg some (by kernel_rfl))
 f241 := Tryz.func138.trans (congrArg some (by kernel_rfl))
 f276 := Tryz.func142.trans (congrArg some (by kernel_rfl))
 f277 := Tryz.func162.trans (congrArg some (by kernel_rfl))
 t0 := Tryz.underlying0
 a0 := Tryz.isAgg0
 z0 := Tryz.sizeOf0
 v0 := Tryz.zeroValue0
 t3 := Tryz.underlying3
 a3 := Tryz.isAgg3
 z3 := Tryz.sizeOf3
 v3 := Tryz.zeroValue3
 t4 := Tryz.underlying4
 a4 := Tryz.isAgg4
 z4 := Tryz.sizeOf4
 v4 := Tryz.zeroValue4
 t9 := Tryz.underlying9
 a9 := Tryz.isAgg9
 z9 := Tryz.sizeOf9
 v9 := Tryz.zeroValue9
 t20 := Tryz.underlying20
 a20 := Tryz.isAgg20
 z20 := Tryz.sizeOf20
 v20 := Tryz.zeroValue20
 t31 := Tryz.underlying84
 a31 := Tryz.isAgg84
 z31 := Tryz.sizeOf84
 v31 := Tryz.zeroValue84
 t37 := Tryz.underlying105
 a37 := Tryz.isAgg105
 z37 := Tryz.sizeOf105
 v37 := Tryz.zeroValue105
 t70 := Tryz.underlying104
 a70 := Tryz.isAgg104
 z70 := Tryz.sizeOf104
 v70 := Tryz.zeroValue104
 t72 := Tryz.underlying107
 a72 := Tryz.isAgg107
 z72 := Tryz.sizeOf107
 v72 := Tryz.zeroValue107
 t75 := Tryz.underlying109
 a75 := Tryz.isAgg109
 z75 := Tryz.sizeOf109
 v75 := Tryz.zeroValue109
 t76 := Tryz.underlying110
 a76 := Tryz.isAgg110
 z76 := Tryz.sizeOf110
 v76 := Tryz.zeroValue110
 t127 := Tryz.underlying155
 a127 := Tryz.isAgg155
 z127 := Tryz.sizeOf155
 v127 := Tryz.zeroValue155
 t164 := Tryz.underlying167
 a164 := Tryz.isAgg167
 z164 := Tryz.sizeOf167
 v164 := Tryz.zeroValue167
def Tryz.laysFields_ren : Go.Shelf.Ren := ⟨fun | 157 => 137 | 199 => 161 | 229 => 160 | 261 => 179 | 311 => 189 | 312 => 190 | n => n, fun | 31 => 84 | 40 => 191 | 46 => 158 | 49 => 24 | 51 => 207 | 119 => 189 | 141 => 214 | 152 => 210 | 154 => 212 | 193 => 223 | 194 => 224 | 196 => 226 | 198 => 228 | 201 => 231 | 226 => 238 | 227 => 239 | n => n, fun | 0 => 1 | n => n⟩
theorem Tryz.laysFields : Go.Proofs.Lays.n157 Tryz.prog Tryz.laysFields_ren where
 mixed := by kernel_rfl
 f157 := Tryz.func137.trans (congrArg some (by kernel_rfl))
 f199 := Tryz.func161.trans (congrArg some (by kernel_rfl))
 f229 := Tryz.func160.trans (congrArg some (by kernel_rfl))
 f261 := Tryz.func179.trans (congrArg some (by kernel_rfl))
 f311 := Tryz.func189.trans (congrArg some (by kernel_rfl))
 f312 := Tryz.func190.trans (congrArg some (by kernel_rfl))
 t0 := Tryz.underlying0
 a0 := Tryz.isAgg0
 z0 := Tryz.sizeOf0
 v0 := Tryz.zeroValue0
 t3 := Tryz.underlying3
 a3 := Tryz.isAgg3
 z3 := Tryz.sizeOf3
 v3 := Tryz.zeroValue3
 t4 := Tryz.underlying4
 a4 := Tryz.isAgg4
 z4 := Tryz.sizeOf4
 v4 := Tryz.zeroValue4
 t5 := Tryz.underlying5
 a5 := Tryz.isAgg5
 z5 := Tryz.sizeOf5
 v5 := Tryz.zeroValue5
 t9 := Tryz.underlying9
 a9 := Tryz.isAgg9
 z9 := Tryz.sizeOf9
 v9 := Tryz.zeroValue9
 t21 := Tryz.underlying21
 a21 := Tryz.isAgg21
 z21 := Tryz.sizeOf21
 v21 := Tryz.zeroValue21
 t31 := Tryz.underlying84
 a31 := Tryz.isAgg84
 z31 := Tryz.sizeOf84
 v31 := Tryz.zeroValue84
 t40 := Tryz.underlying191
 a40 := Tryz.isAgg191
 z40 := Tryz.sizeOf191
 v40 := Tryz.zeroValue191
 t46 := Tryz.underlying158
 a46 := Tryz.isAgg158
 z46 := Tryz.sizeOf158
 v46 := Tryz.zeroValue158
 t49 := Tryz.underlying24
 a49 := Tryz.isAgg24
 z49 := Tryz.sizeOf24
 v49 := Tryz.zeroValue24
 t51 := Tryz.underlying207
 a51 := Tryz.isAgg207
 z51 := Tryz.sizeOf207
 v51 := Tryz.zeroValue207
 t119 := Tryz.underlying189
 a119 := Tryz.isAgg189
 z119 := Tryz.sizeOf189
 t141 := Tryz.underlying214
 a141 := Tryz.isAgg214
 z141 := Tryz.sizeOf214
 v141 := Tryz.zeroValue214
 t152 := Tryz.underlying210
 a152 := Tryz.isAgg210
 z152 := Tryz.sizeOf210
 v152 := Tryz.zeroValue210
 t154 := Tryz.underlying212
 a154 := Tryz.isAgg212
 z154 := Tryz.sizeOf212
 v154 := Tryz.zeroValue212
 t193 := Tryz.underlying223
 a193 := Tryz.isAgg223
 z193 := Tryz.sizeOf223
 v193 := Tryz.zeroValue223
 t194 := Tryz.underlying224
 a194 := Tryz.isAgg224
 z194 := Tryz.sizeOf224
 v194 := Tryz.zeroValue224
 t196 := Tryz.underlying226
 a196 := Tryz.isAgg226
 z196 := Tryz.sizeOf226
 v196 := Tryz.zeroValue226
 t198 := Tryz.underlying228
 a198 := Tryz.isAgg228
 z198 := Tryz.sizeOf228
 v198 := Tryz.zeroValue228
 t201 := Tryz.underlying231
 a201 := Tryz.isAgg231
 z201 := Tryz.sizeOf231
 v201 := Tryz.zeroValue231
 t226 := Tryz.underlying238
 a226 := Tryz.isAgg238
 z226 := Tryz.sizeOf238
 v226 := Tryz.zeroValue238
 t227 := Tryz.underlying239
 a227 := Tryz.isAgg239
 z227 := Tryz.sizeOf239
 v227 := Tryz.zeroValue239
 g0 := by kernel_rfl
 g6 := by kernel_rfl
theorem Tryz.extraJoin : Builder.Extra Tryz.prog Tryz.laysJoin_ren where
 sizeBuilder := by kernel_rfl
 liesBuilder := by kernel_rfl
 t5 := Tryz.underlying5
 a5 := Tryz.isAgg5
 z5 := Tryz.sizeOf5
 v5 := Tryz.zeroValue5
 infoByte := by kernel_rfl
 cellsByte := by kernel_rfl
 sizeByte := by kernel_rfl
 neB5 := by decide
namespace YtlppecefalblmaaGreatDoor.suits
open Go.RowKit Go.Fs
abbrev _root_.Go.Proofs.Tryz.laysFields_tab : Nat := 1
def tabA : List AV := (List.range 256).map fun c => .int .u8 (if Lib.isSp (UInt8.ofNat c) then 1 else 0)
open Classical in
noncomputable def tellFields (args : List AV) (h : AH) : Option (AV × AH) :=
 match args with
 | [.str a] => if a.length ≤ 1000 ∧ a.all (fun c => decide (c.toNat < 128)) = true ∧ readCells h Tryz.laysFields_tab 0 256 = some tabA then
     some (.slice (some (h.n, 0)) (Lib.fields a).length (.exact (Lib.fields a).length), h.push (.cells ((Lib.fields a).map AV.str) false)) else none
 | _ => none
open Classical in
noncomputable def tellJoin (args : List AV) (h : AH) : Option (AV × AH) :=
 match args with
 | [.slice (some (b, 0)) n cap, .str sep] => if hx : ∃ (L : List (List UInt8)) (ro : Bool), h.get b = some (.cells (L.map AV.str) ro) ∧ L.length = n ∧ L ≠ [] ∧ (cap = .opn 1 ∨ cap = .exact n) ∧ L.length ≤ 1000 ∧ (Lib.join L sep).length ≤ 100000 then
     some (.str (Lib.join hx.choose sep), h) else none
 | _ => none
theorem map_str_inj : ∀ {L M : List (List UInt8)}, L.map AV.str = M.map AV.str → L = M
 | [], [], _ => rfl
 | a :: L, b :: M, h => by
   simp only [List.map_cons, List.cons.injEq, AV.str.injEq] at h
   rw [h.1, map_str_inj h.2]
 | [], _ :: _, h => by simp at h
 | _ :: _, [], h => by simp at h
theorem strs_rel {ι : Emb} : ∀ L : List (List UInt8), VRels ι (L.map AV.str) (L.map fun l => Value.string ⟨l.toArray⟩)
 | [] => by simp [VRels]
 | a :: L => by
   simp only [List.map_cons, VRels]
   exact ⟨_, _, rfl, by simp [VRel], strs_rel L⟩
variable {orc0 : Orc}
noncomputable def orcFJ (orc0 : Orc) : Orc := fun f => match Nat.beq f 137 with
 | true => some tellFields
 | false => match Nat.beq f 44 with
   | true => some tellJoin
   | false => orc0 f
theorem goodFJ (h0 : GoodOrc Tryz.prog orc0) : GoodOrc Tryz.prog (orcFJ orc0) := by
 intro f s hs args h v h' hv
 unfold orcFJ at hs
 split at hs
 · rename_i hf
   cases hs
   obtain rfl := Nat.eq_of_beq_eq_true hf
   unfold tellFields at hv
   split at hv
   · rename_i a
     split at hv
     · rename_i hb
       obtain ⟨hb1, hb2, hb3⟩ := hb
       cases hv
       refine .inl ⟨body_of (by kernel_rfl), fun ι w rargs r ha => ?_⟩
       obtain ⟨rx, rfl, h1⟩ := one_rel' ha
       rw [str_of h1]
       have e1 : (⟨a.toArray⟩ : ByteArray).size = a.length := by simp [ByteArray.size]
       have hgl := r.glob Tryz.laysFields_tab (by show Tryz.laysFields_tab < Tryz.prog.globals.size; exact of_decide_eq_true (by kernel_rfl))
       have hT : ∀ c : Nat, c < 256 → w.cell? ⟨Tryz.laysFields_tab, c, none⟩ = some (.int .u8 (if Lib.isSp (UInt8.ofNat c) then 1 else 0)) := fun c hc => by
        have h3 : readCell h Tryz.laysFields_tab c = some (.int .u8 (if Lib.isSp (UInt8.ofNat c) then 1 else 0)) := by
         unfold readCells at hb3
         unfold readCell
         split at hb3
         · rename_i cs ro hg
           unfold Fs.cut at hb3
           split at hb3
           · rename_i hl
             have := Option.some.inj hb3
             rw [List.drop_zero] at this
             have h4 : (cs.take 256)[c]? = tabA[c]? := by rw [this]
             rw [List.getElem?_take, if_pos hc] at h4
             rw [h4]
             simp [tabA, hc]
           · cases hb3
         · cases hb3
        obtain ⟨x, hx1, hx2⟩ := cell_of r h3
        rw [hgl.1, hgl.2, int_of hx2, Nat.zero_add] at hx1
        exact hx1
       have main := Any.strings_Fields_core Tryz.laysFields (by kernel_rfl) ⟨a.toArray⟩ w (by omega) (by
        have := ascii_of_all hb2
        simpa using this) hT
       refine (show Calls Tryz.prog 137 [Value.string ⟨a.toArray⟩].toArray w _ from main).mono fun e w' ⟨he, hw⟩ => ?_
       subst hw
       have hal : (⟨a.toArray⟩ : ByteArray).data.toList = a := by simp
       rw [hal] at he ⊢
       obtain ⟨r2, st⟩ := new_rel r (Tryz.laysFields_ren.t 9) (cs := (Lib.fields a).map AV.str) (arr := ((Lib.fields a).map fun l => Value.string ⟨l.toArray⟩).toArray) (by simpa using strs_rel (ι := ι) (Lib.fields a))
       refine ⟨_, _, he, ?_, r2, st⟩
       simp only [VRel, ← r.n]
       exact ⟨by simp [Emb.add], Nat.le_refl _, _, rfl, fun _ => by simp⟩
     · cases hv
   · cases hv
 · split at hs
   · rename_i hf
     cases hs
     obtain rfl := Nat.eq_of_beq_eq_true hf
     unfold tellJoin at hv
     split at hv
     · rename_i b n cap sep
       split at hv
       · rename_i hx
         cases hv
         obtain ⟨ro, k1, k2, k3, k4, k5, k6⟩ := hx.choose_spec
         generalize hx.choose = L at *
         refine .inl ⟨body_of (by kernel_rfl), fun ι w rargs r ha => ?_⟩
         obtain ⟨rx, ry, rfl, h1, h2⟩ := two_rel' ha
         rw [str_of h2]
         have hp : 0 < n := by rw [← k2]; exact List.length_pos_iff.2 k3
         have hc : ∃ o c, rx = .slice (some ⟨ι.blk b, o, none⟩) n c ∧ o = ι.sh b ∧ n ≤ c := by
          rcases k4 with rfl | rfl
          · simp only [VRel] at h1
            obtain ⟨_, _, o', c', q1, q2, q3⟩ := h1
            rcases q3 with ⟨q3, q4, q5⟩ | ⟨q3, _⟩
            · exact ⟨o', c', q1, by omega, q4⟩
            · omega
          · simp only [VRel] at h1
            obtain ⟨_, _, a, q1, q2⟩ := h1
            have q3 := q2 hp
            subst q3
            exact ⟨_, _, q1, by omega, Nat.le_refl _⟩
         obtain ⟨o, c, rfl, rfl, hnc⟩ := hc
         have hcell : ∀ (j : Nat) x, (L.map fun l => (⟨l.toArray⟩ : ByteArray))[j]? = some x → w.cell? ⟨ι.blk b, ι.sh b + j, none⟩ = some (.string x) := fun j x hj => by
          rw [List.getElem?_map] at hj
          obtain ⟨l, hl, rfl⟩ := Option.map_eq_some_iff.1 hj
          have h3 : readCell h b j = some (.str l) := by
           unfold readCell
           rw [k1]
           simp only
           rw [List.getElem?_map, hl]; rfl
          obtain ⟨x, hx1, hx2⟩ := cell_of r h3
          rw [str_of hx2] at hx1
          exact hx1
         have hbk : ι.blk b < w.heap.size := by
          obtain ⟨l, r', rfl⟩ := List.exists_cons_of_ne_nil k3
          exact World.block_lt_of_cell? _ _ (hcell 0 _ rfl)
         have hdata : (L.map fun l => (⟨l.toArray⟩ : ByteArray)).map (·.data.toList) = L := by
          rw [List.map_map]
          have : ((fun x : ByteArray => x.data.toList) ∘ fun l : List UInt8 => (⟨l.toArray⟩ : ByteArray)) = id := by funext l; simp
          rw [this, List.map_id]
         have main := Any.strings_Join Tryz.laysJoin Tryz.extraJoin (ι.blk b) (ι.sh b) c (L.map fun l => (⟨l.toArray⟩ : ByteArray)) ⟨sep.toArray⟩ w hcell hbk (by rw [List.length_map]; omega) (by rw [List.length_map, k2]; exact hnc) (by rw [hdata, show (⟨sep.toArray⟩ : ByteArray).data.toList = sep by simp]; omega)
         rw [hdata, show (⟨sep.toArray⟩ : ByteArray).data.toList = sep by simp, List.length_map, k2] at main
         refine (show Calls Tryz.prog 44 [Value.slice (some ⟨ι.blk b, ι.sh b, none⟩) n c, Value.string ⟨sep.toArray⟩].toArray w _ from main).mono fun e w' ⟨he, hw⟩ => ?_
         exact ⟨ι, _, he, by simp [VRel], r.later fun k hk => hw.block k hk, below_stp hw⟩
       · cases hv
     · cases hv
   · exact h0 f s hs args h v h' hv
end YtlppecefalblmaaGreatDoor.suits
end Go.Proofs
