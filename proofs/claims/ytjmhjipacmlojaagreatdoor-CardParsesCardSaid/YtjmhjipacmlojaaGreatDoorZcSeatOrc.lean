/- What is told ahead of the machine at this seat: the library's functions without text, suit.Of, the search in strings. -/
import Derived.Test.YtjmhjipacmlojaaGreatDoorZcSuitOf
import Derived.Test.YtjmhjipacmlojaaGreatDoorFz06
import Derived.Shelf.Strings.Shaped
namespace Go.Proofs
open Go.Shelf
def Tryz.laysIndex_ren : Go.Shelf.Ren := ⟨fun | 217 => 158 | 219 => 140 | 224 => 160 | 225 => 159 | 266 => 174 | 267 => 161 | 314 => 175 | n => n, fun | 46 => 134 | 51 => 176 | 146 => 208 | n => n, fun | 1 => 5 | n => n⟩
theorem Tryz.laysIndex : Go.Proofs.LaysM.n219 Tryz.prog Tryz.laysIndex_ren where
 mixed := by kernel_rfl
 f217 := Tryz.func158.trans (congrArg some (by kernel_rfl))
 f219 := Tryz.func140.trans (congrArg some (by kernel_rfl))
 f224 := Tryz.func160.trans (congrArg some (by kernel_rfl))
 f225 := Tryz.func159.trans (congrArg some (by kernel_rfl))
 f266 := Tryz.func174.trans (congrArg some (by kernel_rfl))
 f267 := Tryz.func161.trans (congrArg some (by kernel_rfl))
 f314 := Tryz.func175.trans (congrArg some (by kernel_rfl))
 t3 := Tryz.underlying3
 a3 := Tryz.isAgg3
 z3 := Tryz.sizeOf3
 v3 := Tryz.zeroValue3
 t4 := Tryz.underlying4
 a4 := Tryz.isAgg4
 z4 := Tryz.sizeOf4
 v4 := Tryz.zeroValue4
 t5 := Tryz.underlying5
 a5 := Tryz.isAgg5
 z5 := Tryz.sizeOf5
 v5 := Tryz.zeroValue5
 t9 := Tryz.underlying9
 a9 := Tryz.isAgg9
 z9 := Tryz.sizeOf9
 v9 := Tryz.zeroValue9
 t46 := Tryz.underlying134
 a46 := Tryz.isAgg134
 z46 := Tryz.sizeOf134
 v46 := Tryz.zeroValue134
 t51 := Tryz.underlying176
 a51 := Tryz.isAgg176
 z51 := Tryz.sizeOf176
 v51 := Tryz.zeroValue176
 t146 := Tryz.underlying208
 a146 := Tryz.isAgg208
 z146 := Tryz.sizeOf208
 v146 := Tryz.zeroValue208
 g1 := by kernel_rfl
 i3 := by kernel_rfl
 i4 := by kernel_rfl
 i5 := by kernel_rfl
 i9 := by kernel_rfl
 i46 := by kernel_rfl
 i51 := by kernel_rfl
 i146 := by kernel_rfl
 m1 := by kernel_rfl
 s1_3 := fun w h => Go.Proofs.cell_of_shapedOpen_int (zero := #[.int .i64 0]) (t := 3) h (of_decide_eq_true (by kernel_rfl)) (by kernel_rfl) rfl (by kernel_rfl) (by kernel_rfl) Tryz.underlying3
namespace YtjmhjipacmlojaaGreatDoor.suits
open Go.RowKit Go.Fs
noncomputable def tellOf (args : List AV) (h : AH) : Option (AV × AH) :=
 match args with
 | [.str s] => some (.tuple [.int .u8 (answer s).1, .bool (answer s).2], h)
 | _ => none
noncomputable def tellIndex (args : List AV) (h : AH) : Option (AV × AH) :=
 match args with
 | [.str a, .str b] => if a.length < 4294967281 then (match readCell h 5 0 with
   | some (.int .i64 _) => some (.int .i64 (Lib.index a b), h)
   | _ => none) else none
 | _ => none
noncomputable def orc : Orc := fun f => match orcExt Tryz.prog f with
 | some s => some s
 | none => match Nat.beq f 56 with
   | true => some tellOf
   | false => match Nat.beq f 140 with
     | true => some tellIndex
     | false => none
theorem below_stp {ι : Emb} {h : AH} {w w' : World} (b : Below w.heap.size w w') : Stp ι ι h h w w' :=
 ⟨ι.le_refl, b.os, b.tape, b.output, b.size, fun k hk _ => b.block k hk, fun b c hb hc => .inr ⟨b, c, hb, hc, rfl⟩, Nat.le_refl _, Nat.le_refl _, fun _ _ _ => rfl⟩
theorem body_of {f : Nat} (hb : (match Tryz.prog.funcs[f]? with | some fn => fn.body.isSome && !(fn.name == "runtime.NumGoroutine") | none => false) = true) :
    ∃ fn b, Tryz.prog.funcs[f]? = some fn ∧ fn.body = some b ∧ (fn.name == "runtime.NumGoroutine") = false := by
 cases hf : Tryz.prog.funcs[f]? with
 | none => rw [hf] at hb; cases hb
 | some fn =>
   rw [hf] at hb
   simp only [Bool.and_eq_true, Bool.not_eq_true'] at hb
   obtain ⟨b, h1⟩ := Option.isSome_iff_exists.1 hb.1
   exact ⟨fn, b, rfl, h1, hb.2⟩
theorem good : GoodOrc Tryz.prog orc := by
 intro f s hs args h v h' hv
 unfold orc at hs
 split at hs
 · rename_i s' he
   cases hs
   exact good_ext _ f _ he args h v h' hv
 · split at hs
   · rename_i hf
     cases hs
     obtain rfl := Nat.eq_of_beq_eq_true hf
     unfold tellOf at hv
     split at hv
     · rename_i str
       cases hv
       refine .inl ⟨body_of (by kernel_rfl), fun ι w rargs r ha => ?_⟩
       obtain ⟨rx, rfl, h1⟩ := one_rel' ha
       rw [str_of h1]
       refine (of_calls str w).mono fun e w' ⟨he, hb⟩ => ?_
       exact ⟨ι, _, he, by simp only [VRel, VRels]; exact ⟨_, rfl, _, [_], by simp, rfl, _, [], rfl, rfl, rfl⟩, r.later fun k hk => hb.block k hk, below_stp hb⟩
     · cases hv
   · split at hs
     · rename_i hf
       cases hs
       obtain rfl := Nat.eq_of_beq_eq_true hf
       unfold tellIndex at hv
       split at hv
       · rename_i a b
         split at hv
         · rename_i hlen
           split at hv
           · rename_i m hm
             cases hv
             refine .inl ⟨body_of (by kernel_rfl), fun ι w rargs r ha => ?_⟩
             obtain ⟨rx, ry, rfl, h1, h2⟩ := two_rel' ha
             rw [str_of h1, str_of h2]
             obtain ⟨x, hc, hx⟩ := cell_of r hm
             have hgl := r.glob 5 (by show 5 < Tryz.prog.globals.size; exact of_decide_eq_true (by kernel_rfl))
             rw [hgl.1, hgl.2, int_of hx] at hc
             have hsz : (⟨a.toArray⟩ : ByteArray).size < 4294967281 := by simpa [ByteArray.size] using hlen
             have main := Any.stringslite_Index { Tryz.laysIndex with } ⟨a.toArray⟩ ⟨b.toArray⟩ m w hsz hc
             refine (show Calls Tryz.prog 140 [Value.string ⟨a.toArray⟩, Value.string ⟨b.toArray⟩].toArray w _ from main).mono fun e w' ⟨he, hw⟩ => ?_
             subst hw
             exact ⟨ι, _, he, by simp [VRel], r, Stp.refl _ _ _⟩
           · cases hv
         · cases hv
       · cases hv
     · cases hs
end YtjmhjipacmlojaaGreatDoor.suits
end Go.Proofs
