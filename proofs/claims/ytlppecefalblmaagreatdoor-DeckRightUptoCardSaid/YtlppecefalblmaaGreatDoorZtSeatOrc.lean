/- What is told ahead of the machine at this seat: the library's functions without text, the search in strings. -/
import Derived.Test.YtlppecefalblmaaGreatDoorChecked
import Derived.Test.YtlppecefalblmaaGreatDoorFz05
import Derived.Test.YtlppecefalblmaaGreatDoorFz04
import Derived.Shelf.Strings.Shaped
namespace Go.Proofs
open Go.Shelf
def Tryz.laysIndex_ren : Go.Shelf.Ren := ⟨fun | 217 => 163 | 219 => 143 | 224 => 165 | 225 => 164 | 266 => 180 | 267 => 166 | 314 => 181 | n => n, fun | 46 => 158 | 51 => 207 | 146 => 215 | n => n, fun | 1 => 2 | n => n⟩
theorem Tryz.laysIndex : Go.Proofs.LaysM.n219 Tryz.prog Tryz.laysIndex_ren where
 mixed := by kernel_rfl
 f217 := Tryz.func163.trans (congrArg some (by kernel_rfl))
 f219 := Tryz.func143.trans (congrArg some (by kernel_rfl))
 f224 := Tryz.func165.trans (congrArg some (by kernel_rfl))
 f225 := Tryz.func164.trans (congrArg some (by kernel_rfl))
 f266 := Tryz.func180.trans (congrArg some (by kernel_rfl))
 f267 := Tryz.func166.trans (congrArg some (by kernel_rfl))
 f314 := Tryz.func181.trans (congrArg some (by kernel_rfl))
 t3 := Tryz.underlying3
 a3 := Tryz.isAgg3
 z3 := Tryz.sizeOf3
 v3 := Tryz.zeroValue3
 t4 := Tryz.underlying4
 a4 := Tryz.isAgg4
 z4 := Tryz.sizeOf4
 v4 := Tryz.zeroValue4
 t5 := Tryz.underlying5
 a5 := Tryz.isAgg5
 z5 := Tryz.sizeOf5
 v5 := Tryz.zeroValue5
 t9 := Tryz.underlying9
 a9 := Tryz.isAgg9
 z9 := Tryz.sizeOf9
 v9 := Tryz.zeroValue9
 t46 := Tryz.underlying158
 a46 := Tryz.isAgg158
 z46 := Tryz.sizeOf158
 v46 := Tryz.zeroValue158
 t51 := Tryz.underlying207
 a51 := Tryz.isAgg207
 z51 := Tryz.sizeOf207
 v51 := Tryz.zeroValue207
 t146 := Tryz.underlying215
 a146 := Tryz.isAgg215
 z146 := Tryz.sizeOf215
 v146 := Tryz.zeroValue215
 g1 := by kernel_rfl
 i3 := by kernel_rfl
 i4 := by kernel_rfl
 i5 := by kernel_rfl
 i9 := by kernel_rfl
 i46 := by kernel_rfl
 i51 := by kernel_rfl
 i146 := by kernel_rfl
 m1 := by kernel_rfl
 s1_3 := fun w h => Go.Proofs.cell_of_shapedOpen_int (zero := #[.int .i64 0]) (t := 3) h (of_decide_eq_true (by kernel_rfl)) (by kernel_rfl) rfl (by kernel_rfl) (by kernel_rfl) Tryz.underlying3
namespace YtlppecefalblmaaGreatDoor.suits
open Go.RowKit Go.Fs
noncomputable def tellIndex (args : List AV) (h : AH) : Option (AV × AH) :=
 match args with
 | [.str a, .str b] => if a.length < 4294967281 then (match readCell h 2 0 with
   | some (.int .i64 _) => some (.int .i64 (Lib.index a b), h)
   | _ => none) else none
 | _ => none
noncomputable def orc : Orc := fun f => match orcExt Tryz.prog f with
 | some s => some s
 | none => match Nat.beq f 143 with
   | true => some tellIndex
   | false => none
theorem below_stp {ι : Emb} {h : AH} {w w' : World} (b : Below w.heap.size w w') : Stp ι ι h h w w' :=
 ⟨ι.le_refl, b.os, b.tape, b.output, b.size, fun k hk _ => b.block k hk, fun b c hb hc => .inr ⟨b, c, hb, hc, rfl⟩, Nat.le_refl _, Nat.le_refl _, fun _ _ _ => rfl⟩
theorem body_of {f : Nat} (hb : (match Tryz.prog.funcs[f]? with | some fn => fn.body.isSome && !(fn.name == "runtime.NumGoroutine") | none => false) = true) :
    ∃ fn b, Tryz.prog.funcs[f]? = some fn ∧ fn.body = some b ∧ (fn.name == "runtime.NumGoroutine") = false := by
 cases hf : Tryz.prog.funcs[f]? with
 | none => rw [hf] at hb; cases hb
 | some fn =>
   rw [hf] at hb
   simp only [Bool.and_eq_true, Bool.not_eq_true'] at hb
   obtain ⟨b, h1⟩ := Option.isSome_iff_exists.1 hb.1
   exact ⟨fn, b, rfl, h1, hb.2⟩
theorem good : GoodOrc Tryz.prog orc := by
 intro f s hs args h v h' hv
 unfold orc at hs
 split at hs
 · rename_i s' he
   cases hs
   exact good_ext _ f _ he args h v h' hv
 · split at hs
   · rename_i hf
     cases hs
     obtain rfl := Nat.eq_of_beq_eq_true hf
     unfold tellIndex at hv
     split at hv
     · rename_i a b
       split at hv
       · rename_i hlen
         split at hv
         · rename_i m hm
           cases hv
           refine .inl ⟨body_of (by kernel_rfl), fun ι w rargs r ha => ?_⟩
           obtain ⟨rx, ry, rfl, h1, h2⟩ := two_rel' ha
           rw [str_of h1, str_of h2]
           obtain ⟨x, hc, hx⟩ := cell_of r hm
           have hgl := r.glob 2 (by show 2 < Tryz.prog.globals.size; exact of_decide_eq_true (by kernel_rfl))
           rw [hgl.1, hgl.2, int_of hx] at hc
           have hsz : (⟨a.toArray⟩ : ByteArray).size < 4294967281 := by simpa [ByteArray.size] using hlen
           have main := Any.stringslite_Index { Tryz.laysIndex with } ⟨a.toArray⟩ ⟨b.toArray⟩ m w hsz hc
           refine (show Calls Tryz.prog 143 [Value.string ⟨a.toArray⟩, Value.string ⟨b.toArray⟩].toArray w _ from main).mono fun e w' ⟨he, hw⟩ => ?_
           subst hw
           exact ⟨ι, _, he, by simp [VRel], r, Stp.refl _ _ _⟩
         · cases hv
       · cases hv
     · cases hv
   · cases hs
end YtlppecefalblmaaGreatDoor.suits
end Go.Proofs
