/- The abstract machine of the Fs texts, part 7: what it runs, and that each of its runs is one of the program. -/
import Derived.Lib.SplitLaws
import Derived.Lib.Join
import Derived.Test.YtjmhjipacmlojaaGreatDoorFz03
import Derived.Lib.Bytealg
import Derived.Laws.AppendOwn
import Derived.Lib.Builder
section
/- Words with blanks between them, cut at the blanks, are the words. -/
namespace Go.Fs.Plain
open Go
theorem index_cons_ne {b : UInt8} {l : List UInt8} (h : b ≠ 32) : Lib.index (b :: l) [32] = if Lib.index l [32] == -1 then -1 else Lib.index l [32] + 1 := by
 have hp : ([32] : List UInt8).isPrefixOf (b :: l) = false := by simp [List.isPrefixOf, Ne.symm h]
 rw [Lib.index, hp]; simp
theorem index_cons_eq {l : List UInt8} : Lib.index (32 :: l) [32] = 0 := by rw [Lib.index]; simp [List.isPrefixOf]
theorem splitK_nil (k : Nat) : Lib.splitK [32] 0 k [] = [[]] := by cases k <;> simp [Lib.splitK, Lib.index]
theorem splitK_ne_nil (k : Nat) (s : List UInt8) : Lib.splitK [32] 0 k s ≠ [] := by
 cases k with
 | zero => simp [Lib.splitK]
 | succ k => unfold Lib.splitK; split <;> simp
def putB (b : UInt8) : List (List UInt8) → List (List UInt8)
 | [] => [[b]]
 | x :: r => (b :: x) :: r
theorem splitK_cons_ne {b : UInt8} (h : b ≠ 32) (k : Nat) (l : List UInt8) : Lib.splitK [32] 0 k (b :: l) = putB b (Lib.splitK [32] 0 k l) := by
 cases k with
 | zero => rfl
 | succ k =>
   unfold Lib.splitK
   rw [index_cons_ne h]
   by_cases hm : Lib.index l [32] = -1
   · simp [hm, putB]
   · have hge := Lib.index_ge l [32]
     obtain ⟨j, hj⟩ : ∃ j : Nat, Lib.index l [32] = j := ⟨(Lib.index l [32]).toNat, by omega⟩
     have e1 : ¬ ((j : Int) == -1) = true := by rw [beq_iff_eq]; omega
     have e2 : ¬ (((j : Int) + 1) == -1) = true := by rw [beq_iff_eq]; omega
     rw [hj, if_neg e1, if_neg e1, if_neg e2]
     have e3 : ((j : Int) + 1).toNat = j + 1 := by omega
     simp [e3, putB]
theorem splitK_cons_eq (k : Nat) (l : List UInt8) : Lib.splitK [32] 0 (k + 1) (32 :: l) = [] :: Lib.splitK [32] 0 k l := by
 rw [Lib.splitK, index_cons_eq]
 simp
theorem split_nil : Lib.split [] [32] = [[]] := by unfold Lib.split; exact splitK_nil _
theorem split_cons_ne {b : UInt8} (h : b ≠ 32) (l : List UInt8) : Lib.split (b :: l) [32] = putB b (Lib.split l [32]) := by
 unfold Lib.split
 rw [Lib.count_cons_ne b 32 l h, splitK_cons_ne h]
theorem split_cons_eq (l : List UInt8) : Lib.split (32 :: l) [32] = [] :: Lib.split l [32] := by
 unfold Lib.split
 rw [Lib.count_cons_eq, Nat.add_comm, splitK_cons_eq]
theorem split_app {x : List UInt8} (hx : ∀ b ∈ x, b ≠ 32) (s : List UInt8) : Lib.split (x ++ 32 :: s) [32] = x :: Lib.split s [32] := by
 induction x with
 | nil => exact split_cons_eq s
 | cons b x ih => rw [List.cons_append, split_cons_ne (hx b (by simp)), ih fun c hc => hx c (by simp [hc])]; rfl
theorem split_word {x : List UInt8} (hx : ∀ b ∈ x, b ≠ 32) : Lib.split x [32] = [x] := by
 induction x with
 | nil => exact split_nil
 | cons b x ih => rw [split_cons_ne (hx b (by simp)), ih fun c hc => hx c (by simp [hc])]; rfl
theorem join_two (x y : List UInt8) (r : List (List UInt8)) : Lib.join (x :: y :: r) [32] = x ++ 32 :: Lib.join (y :: r) [32] := by
 rw [Lib.join_cons, Lib.join_cons]
 simp [Lib.joinTail]
theorem split_join : ∀ {W : List (List UInt8)}, W ≠ [] → (∀ x ∈ W, ∀ b ∈ x, b ≠ 32) → Lib.split (Lib.join W [32]) [32] = W
 | [], h, _ => absurd rfl h
 | [x], _, hx => by rw [Lib.join_one]; exact split_word (hx x (by simp))
 | x :: y :: r, _, hx => by
   rw [join_two, split_app (hx x (by simp)), split_join (by simp) fun z hz => hx z (by simp [hz])]
theorem split_len (s : List UInt8) : (Lib.split s [32]).length ≤ s.length + 1 ∧ ∀ x ∈ Lib.split s [32], x.length ≤ s.length := by
 induction s with
 | nil => rw [split_nil]; simp
 | cons b l ih =>
   by_cases h : b = 32
   · subst h
     rw [split_cons_eq]
     refine ⟨by simp; exact ih.1, fun x hx => ?_⟩
     rcases List.mem_cons.1 hx with rfl | hx
     · simp
     · have := ih.2 x hx; simp; omega
   · rw [split_cons_ne h]
     generalize Lib.split l [32] = S at *
     cases S with
     | nil => simp [putB]
     | cons y r =>
       refine ⟨by have := ih.1; simp [putB] at this ⊢; omega, fun x hx => ?_⟩
       rcases List.mem_cons.1 hx with rfl | hx
       · have := ih.2 y (by simp); simp; omega
       · have := ih.2 x (by simp [hx]); simp; omega
end Go.Fs.Plain
end

section
/- Functions of Go's library that have no text: what the model's entries do, told ahead of the machine. -/
namespace Go.Fs
def extName (P : Program) (fn : Func) : Option (List AV → AH → Option (AV × AH)) :=
 if fn.name = "internal/abi.NoEscape" then some fun args h => match args with
  | [x] => some (x, h)
  | _ => none
 else if fn.name = "internal/bytealg.IndexByteString" then some fun args h => match args with
  | [.str s, .int .u8 c] => some (.int .i64 (Lib.indexByte s c.toNat.toUInt8), h)
  | _ => none
 else if fn.name = "internal/bytealg.CountString" then some fun args h => match args with
  | [.str s, .int .u8 c] => some (.int .i64 (Lib.countByte s c.toNat.toUInt8 : Nat), h)
  | _ => none
 else if fn.name = "internal/bytealg.MakeNoZero" then match fn.resultTypes.toList with
  | [t] => match P.underlying t with
    | some (.slice e) => some fun args h => match args with
      | [.int .i64 n] => if 0 ≤ n ∧ n ≤ 281474976710656 then some (.slice (some (h.n, 0)) n.toNat (.opn 1), (h.push (.cells (List.replicate n.toNat (.junk true)) false)).push (.typ h.n e)) else none
      | _ => none
    | _ => none
  | _ => none
 else none
def orcExt (P : Program) : Orc := fun f => match P.funcs[f]? with
 | some fn => match fn.body with
   | some _ => none
   | none => if fn.origin = "" then extName P fn else none
 | none => none
theorem next_empty : Extern.allNextRows.lookup "" = none := by kernel_rfl
theorem next_none {fn : Func} (ho : fn.origin = "") (h : Extern.allNextRows.lookup fn.name = none) : Extern.findNext fn = none := by
 unfold Extern.findNext
 simp [ho, h, next_empty]
theorem find_row {fn : Func} {e : Array Value → Sem Value} (h1 : Extern.allGenericRows.lookup fn.name = none) (h2 : Extern.allTypedRows.lookup fn.name = none) (h : Extern.allRows.lookup fn.name = some e) : Extern.find fn = some e := by
 unfold Extern.find
 simp [h1, h2, h]
theorem find_typed {fn : Func} {e : Array TypeId → Array TypeId → Array Value → Sem Value} (h1 : Extern.allGenericRows.lookup fn.name = none) (h2 : Extern.allTypedRows.lookup fn.name = some e) : Extern.find fn = some (e fn.params fn.resultTypes) := by
 unfold Extern.find
 simp [h1, h2]
theorem ext_pure {P : Program} {f : Nat} {fn : Func} {e : Array Value → Sem Value} (hf : P.funcs[f]? = some fn) (hb : fn.body = none) (hname : (fn.name == "runtime.NumGoroutine") = false)
    (hn : Extern.findNext fn = none) (he : Extern.find fn = some e) {args : List AV} {h : AH} {v : AV}
    (hrun : ∀ (ι : Emb) (w : World) (rargs : List Value), Rel P.globals.size ι h w → VRels ι args rargs → ∃ rv, (e rargs.toArray).run P w = .ok rv w ∧ VRel ι v rv) : GoodAt P f args h v h := by
 refine .inr ⟨⟨fn, hf, hb⟩, fun ι w rargs r ha => ?_⟩
 obtain ⟨rv, h1, h2⟩ := hrun ι w rargs r ha
 exact ⟨ι, rv, w, by rw [run_callFunc_extern hf hname (by simp [hb]) hn he, h1]; rfl, h2, r, Stp.refl _ _ _⟩
theorem digits_ints : ∀ (n t : Nat) (acc : Array Value), (∀ v ∈ acc.toList, ∃ k, v = .int .u8 k) → ∀ v ∈ (Extern.BytealgMakeNoZero.digits n t acc).toList, ∃ k, v = .int .u8 k
 | 0, _, _, h => h
 | n + 1, t, acc, h => by
   rw [Extern.BytealgMakeNoZero.digits]
   refine digits_ints n _ _ fun v hv => ?_
   rw [Array.toList_push, List.mem_append] at hv
   rcases hv with hv | hv
   · exact h v hv
   · simp at hv; exact ⟨_, hv⟩
theorem digits_size : ∀ (n t : Nat) (acc : Array Value), (Extern.BytealgMakeNoZero.digits n t acc).size = acc.size + n
 | 0, _, _ => rfl
 | n + 1, t, acc => by
   rw [Extern.BytealgMakeNoZero.digits, digits_size n]
   simp
   omega
theorem run_noZero {P : Program} (w : World) (ps : Array TypeId) (t e : TypeId) (ht : P.underlying t = some (.slice e)) (n : Nat) (hn : n ≤ 281474976710656) :
    ∃ cs : Array Value, (Extern.BytealgMakeNoZero.makeNoZero ps #[t] #[.int .i64 n]).run P w = .ok (.slice (some ⟨w.heap.size, 0, none⟩) n cs.size) (w.drew.drew.alloc (.cells cs e)) ∧ n ≤ cs.size ∧ cs.size ≤ maxLen ∧ ∀ v ∈ cs.toList, ∃ k, v = .int .u8 k := by
 have hdef : Extern.BytealgMakeNoZero.makeNoZero ps #[t] #[.int .i64 n] =
     (do
       let .slice elem ← underlying t | stuck "bytealg.MakeNoZero: slice type expected"
       if (n : Int) < 0 || (n : Int) > 2 ^ 48 then runtimePanic (.error "makeslice: len out of range")
       let cap ← choose (.appendCap (n : Int).toNat 0 elem)
       askRoom cap
       let bytes ← choose (.extern "internal/bytealg.MakeNoZero.bytes" 0)
       let a ← newRow elem (Extern.BytealgMakeNoZero.digits cap bytes #[])
       pure (.slice (some a) (n : Int).toNat cap)) := rfl
 refine ⟨Extern.BytealgMakeNoZero.digits (grownCap w n 0 e) ((Question.extern "internal/bytealg.MakeNoZero.bytes" 0).cut (w.tape (w.drawn + 1) (.extern "internal/bytealg.MakeNoZero.bytes" 0))) #[], ?_, ?_, ?_, digits_ints _ _ _ (by simp)⟩
 · rw [hdef]
   have h1 : ¬ (n : Int) < 0 := by omega
   have h2 : ¬ (281474976710656 : Int) < (n : Int) := by omega
   simp [run_underlying ht, h1, h2, Question.forced, newRow, digits_size, grownCap]
 · rw [digits_size]
   simpa using grownCap_ge w n 0 e
 · rw [digits_size]
   simpa using grownCap_le_maxLen w n 0 e (by have : maxLen = 9223372036854775807 := rfl; omega)
theorem one_rel' {ι : Emb} {a : AV} {rs : List Value} (h : VRels ι [a] rs) : ∃ r, rs = [r] ∧ VRel ι a r := by
 simp only [VRels] at h
 obtain ⟨r, rs', rfl, h1, rfl⟩ := h
 exact ⟨r, rfl, h1⟩
theorem two_rel' {ι : Emb} {a b : AV} {rs : List Value} (h : VRels ι [a, b] rs) : ∃ r s, rs = [r, s] ∧ VRel ι a r ∧ VRel ι b s := by
 simp only [VRels] at h
 obtain ⟨r, rs', rfl, h1, s, rs2, rfl, h2, rfl⟩ := h
 exact ⟨r, s, rfl, h1, h2⟩
theorem good_ext (P : Program) : GoodOrc P (orcExt P) := by
 intro f s hs args h v h' hv
 unfold orcExt at hs
 cases hf : P.funcs[f]? with
 | none => simp [hf] at hs
 | some fn =>
   simp only [hf] at hs
   cases hb : fn.body with
   | some b => simp [hb] at hs
   | none =>
     simp only [hb] at hs
     split at hs
     · rename_i ho
       unfold extName at hs
       split at hs
       · rename_i hnm
         cases hs
         simp only at hv
         split at hv
         · rename_i x
           cases hv
           refine ext_pure hf hb (by rw [hnm]; decide) (next_none ho (by rw [hnm]; kernel_rfl)) (e := Extern.AbiNoEscape.same) (find_row (by rw [hnm]; kernel_rfl) (by rw [hnm]; kernel_rfl) (by rw [hnm]; kernel_rfl)) fun ι w rargs r ha => ?_
           obtain ⟨rx, rfl, h1⟩ := one_rel' ha
           exact ⟨rx, rfl, h1⟩
         · cases hv
       split at hs
       · rename_i hnm
         cases hs
         simp only at hv
         split at hv
         · rename_i x c
           cases hv
           refine ext_pure hf hb (by rw [hnm]; decide) (next_none ho (by rw [hnm]; kernel_rfl)) (e := Extern.BytealgIndexByte.indexByte) (find_row (by rw [hnm]; kernel_rfl) (by rw [hnm]; kernel_rfl) (by rw [hnm]; kernel_rfl)) fun ι w rargs r ha => ?_
           obtain ⟨rx, ry, rfl, h1, h2⟩ := two_rel' ha
           rw [str_of h1, int_of h2]
           exact ⟨_, Lib.run_indexByteString _ _ w, by simp [VRel]⟩
         · cases hv
       split at hs
       · rename_i hnm
         cases hs
         simp only at hv
         split at hv
         · rename_i x c
           cases hv
           refine ext_pure hf hb (by rw [hnm]; decide) (next_none ho (by rw [hnm]; kernel_rfl)) (e := Extern.BytealgCount.count) (find_row (by rw [hnm]; kernel_rfl) (by rw [hnm]; kernel_rfl) (by rw [hnm]; kernel_rfl)) fun ι w rargs r ha => ?_
           obtain ⟨rx, ry, rfl, h1, h2⟩ := two_rel' ha
           rw [str_of h1, int_of h2]
           exact ⟨_, Lib.run_countString _ _ w, by simp [VRel]⟩
         · cases hv
       split at hs
       · rename_i hnm
         split at hs
         · rename_i t ht
           split at hs
           · rename_i e hu
             cases hs
             simp only at hv
             split at hv
             · rename_i n
               split at hv
               · rename_i hle
                 cases hv
                 have hres : fn.resultTypes = #[t] := by apply Array.ext'; simpa using ht
                 refine .inr ⟨⟨fn, hf, hb⟩, fun ι w rargs r ha => ?_⟩
                 obtain ⟨rx, rfl, h1⟩ := one_rel' ha
                 rw [int_of h1]
                 obtain ⟨cs, g1, g2, g2m, g3⟩ := run_noZero (P := P) w fn.params t e hu n.toNat (by omega)
                 rw [show ((n.toNat : Nat) : Int) = n by omega] at g1
                 have hcall := run_callFunc_extern hf (by rw [hnm]; decide) (by simp [hb]) (next_none ho (by rw [hnm]; kernel_rfl)) (find_typed (e := Extern.BytealgMakeNoZero.makeNoZero) (by rw [hnm]; kernel_rfl) (by rw [hnm]; kernel_rfl)) [Value.int .i64 n].toArray w
                 rw [hres, g1] at hcall
                 obtain ⟨k1, k2⟩ := new_ok (G := P.globals.size) (r.drew.drew) e (cs := List.replicate n.toNat (.junk true)) (arr := cs) (fun i c hc => by
                  obtain ⟨hi, hci⟩ := List.getElem?_eq_some_iff.1 hc
                  simp only [List.length_replicate] at hi
                  simp only [List.getElem_replicate] at hci
                  subst hci
                  obtain ⟨k, hk⟩ := g3 (cs[i]'(by omega)) (by simp)
                  refine ⟨cs[i]'(by omega), by simp, ?_⟩
                  rw [hk]
                  simp only [VRel]
                  exact ⟨rfl, fun b hb => (by cases hb), fun _ => rfl⟩) (fun j v hj hv => by
                  obtain ⟨k, hk⟩ := g3 v (List.mem_of_getElem? (i := j) (by rw [Array.getElem?_toList]; exact hv))
                  exact ⟨.int .u8 k, fun _ => by simp [VRel, hk]⟩)
                 have hn : ι.n = h.n := r.n
                 have hdz : w.drew.drew.heap.size = w.heap.size := rfl
                 obtain ⟨k3, k4⟩ := pushTyp k1 (b := h.n) (t := e) (by rw [← hn]; simp) (by rw [← hn]; simp) (by rw [← hn]; simp)
                 refine ⟨_, _, _, hcall, ?_, k3, (((Stp.drew ι h w).trans (Stp.drew ι h w.drew)).trans k2).trans k4⟩
                 refine VRel.mono (Emb.le_add _ _ _ _ _) ?_
                 simp only [VRel]
                 refine ⟨by rw [← hn]; simp, by omega, 0, cs.size, by rw [← hn]; simp [hdz], g2m, .inl ⟨by rw [← hn]; simp, by omega, by rw [← hn]; simp⟩⟩
               · cases hv
             · cases hv
           · cases hs
         · cases hs
       · cases hs
     · cases hs
end Go.Fs
end

