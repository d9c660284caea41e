/- The abstract machine of the Fs texts, part 7: what it runs, and that each of its runs is one of the program. -/
import Derived.Test.YtlppecefalblmaaGreatDoorFz05
import Derived.Test.YtlppecefalblmaaGreatDoorFz04
import Derived.Lib.SplitLaws
import Derived.Lib.Join
import Derived.Test.YtlppecefalblmaaGreatDoorFz03
import Derived.Lib.Bytealg
import Derived.Laws.AppendOwn
import Derived.Lib.Builder
section
/- The steps' goals and the predicate: a law whose code has a region of open order. -/
namespace Go.Fs
open Go
variable {P : Program}
theorem CWP.wp (hm : P.follows .mixedOrders = true) {orc : Orc} (ho : GoodOrc P orc) {c : Code} {Post : AEx → List AV → AH → Prop} {tm : List AV} {h : AH} (hw : WP (acall orc (tbl P)) (cC P c) tm h Post) : CWP P c Post tm h := by
 obtain ⟨e, tm', h', h1, h2⟩ := hw
 obtain ⟨n, hn⟩ := ev_runC orc (tbl P) h1
 exact CWP.run (run_good hm ho n) hm (hn n (Nat.le_refl _)) h2
theorem good_rec (hm : P.follows .mixedOrders = true) {orc : Orc} (ho : GoodOrc P orc) : GoodRec P (acall orc (tbl P)) := fun _ _ _ _ _ hr => good_acall hm ho hr
theorem CWP.mono {c : Code} {R S : AEx → List AV → AH → Prop} {tm : List AV} {h : AH} (hw : CWP P c R tm h) (hi : ∀ ex tm' h', R ex tm' h' → S ex tm' h') : CWP P c S tm h :=
 fun ι w a Q r ha hQ => hw ι w a Q r ha fun ex tm' h' ι' w' a' hp => hQ ex tm' h' ι' w' a' (hi _ _ _ hp)
def depsOf (ops : Array Oper) : List (List Nat) := ops.toList.map fun o => (o.after.toList.filter (Region.binds .any)).map (·.on)
def backOk : Nat → List (List Nat) → Bool
 | _, [] => true
 | i, ds :: l => ds.all (fun d => Nat.blt d i) && backOk (i + 1) l
theorem backOk_at : ∀ (l : List (List Nat)) (k : Nat), backOk k l = true → ∀ (i : Nat) (ds : List Nat), l[i]? = some ds → ∀ d ∈ ds, d < k + i
 | [], _, _, _, _, h => by simp at h
 | x :: l, k, hb, i, ds, h => by
   simp only [backOk, Bool.and_eq_true, List.all_eq_true] at hb
   cases i with
   | zero => simp at h; subst h; exact fun d hd => by have := hb.1 d hd; simpa [Nat.blt_eq] using this
   | succ i => intro d hd; have := backOk_at l (k + 1) hb.2 i ds (by simpa using h) d hd; omega
theorem ready_iff {ops : Array Oper} {deps : List (List Nat)} (hd : depsOf ops = deps) {listed : Array Bool} {i : Nat} :
    i ∈ Region.ready .any ops listed ↔ listed.getD i true = false ∧ ∃ ds, deps[i]? = some ds ∧ ∀ d ∈ ds, listed.getD d false = true := by
 subst hd
 rw [mem_ready]
 refine and_congr_right fun _ => ⟨fun ⟨o, ho, h⟩ => ?_, fun ⟨ds, ho, h⟩ => ?_⟩
 · refine ⟨(o.after.toList.filter (Region.binds .any)).map (·.on), by simp [depsOf, ho], fun d hd => ?_⟩
   obtain ⟨e, he, rfl⟩ := List.mem_map.1 hd
   obtain ⟨h1, h2⟩ := List.mem_filter.1 he
   exact h e (by simpa using h1) h2
 · simp only [depsOf, List.getElem?_map, Array.getElem?_toList, Option.map_eq_some_iff] at ho
   obtain ⟨o, ho, rfl⟩ := ho
   exact ⟨o, ho, fun e he hb => h e.on (List.mem_map.2 ⟨e, List.mem_filter.2 ⟨by simpa using he, hb⟩, rfl⟩)⟩
theorem set_inv {call : Rec} {ops : Array Oper} {cs : List CR} {Q : List AV → AH → Prop} {deps : List (List Nat)} (hd : depsOf ops = deps) (hb : backOk 0 deps = true) (Inv : (Nat → Bool) → List AV → AH → Prop)
    (hstep : ∀ (i : Nat) (ds : List Nat) (L : Nat → Bool) (tm : List AV) (h : AH), deps[i]? = some ds → (∀ d ∈ ds, L d = true) → L i = false → Inv L tm h →
      ∃ c, cs[i]? = some c ∧ c.wanted tm = true ∧ ∃ v h', runOp call c.op tm h = some (v, h') ∧ Inv (fun k => if k = i then true else L k) (put tm c.dst v) h')
    (hend : ∀ (L : Nat → Bool) (tm : List AV) (h : AH), (∀ i, i < deps.length → L i = true) → Inv L tm h → Q tm h) :
    ∀ (fuel : Nat) (listed : Array Bool) (tm : List AV) (h : AH), listed.size = deps.length → fuel + listed.toList.count true = deps.length → Inv (fun k => listed.getD k false) tm h → wpSet call ops cs Q fuel listed tm h := by
 have all : ∀ (listed : Array Bool), listed.size = deps.length → Region.ready .any ops listed = [] → ∀ i, i < deps.length → listed.getD i false = true := by
  intro listed hs hr i
  induction i using Nat.strongRecOn with
  | ind i ih =>
    intro hi
    have hn : ¬ i ∈ Region.ready .any ops listed := by rw [hr]; simp
    rw [ready_iff hd] at hn
    obtain ⟨ds, he⟩ : ∃ ds, deps[i]? = some ds := ⟨_, List.getElem?_eq_getElem hi⟩
    have hlt := backOk_at deps 0 hb i ds he
    have hg : listed.getD i true = listed.getD i false := by simp [Array.getD, show i < listed.size by omega]
    cases hx : listed.getD i false with
    | true => rfl
    | false => exact absurd ⟨hg.trans hx, ds, he, fun d hdd => ih d (by have := hlt d hdd; omega) (by have := hlt d hdd; omega)⟩ hn
 intro fuel
 induction fuel with
 | zero =>
   intro listed tm h hs hc hI
   have ht : ∀ i, i < deps.length → listed.getD i false = true := by
    have := List.count_eq_length.1 (show listed.toList.count true = listed.toList.length by rw [Array.length_toList]; omega)
    intro i hi
    have h1 : i < listed.size := by omega
    have := this listed[i] (by simp)
    simp [Array.getD, h1, ← this]
   refine ⟨?_, hend _ tm h ht hI⟩
   rw [List.eq_nil_iff_forall_not_mem]
   intro i hi
   obtain ⟨h1, ds, h2, _⟩ := (ready_iff hd).1 hi
   have hlt : i < deps.length := (List.getElem?_eq_some_iff.1 h2).1
   have h3 := ht i hlt
   simp [Array.getD, show i < listed.size by omega] at h1 h3
   rw [h1] at h3
   cases h3
 | succ fuel ih =>
   intro listed tm h hs hc hI
   refine ⟨fun hr => hend _ tm h (all listed hs hr) hI, fun i hi => ?_⟩
   obtain ⟨h1, ds, h2, h3⟩ := (ready_iff hd).1 hi
   have hlt : i < deps.length := (List.getElem?_eq_some_iff.1 h2).1
   have hli : i < listed.size := by omega
   have h1' : listed.getD i false = false := by simpa [Array.getD, hli] using h1
   obtain ⟨c, k1, k2, v, h', k3, k4⟩ := hstep i ds (fun k => listed.getD k false) tm h h2 h3 h1' hI
   refine ⟨c, k1, .inl ⟨k2, v, h', k3, ih _ _ _ (by simpa using hs) ?_ ?_⟩⟩
   · have hx : listed.toList[i]'(by simpa using hli) = false := by simpa [Array.getD, hli] using h1
     have : (listed.setIfInBounds i true).toList.count true = listed.toList.count true + 1 := by
      rw [Array.toList_setIfInBounds, List.count_set (by simpa using hli), hx]
      simp
     omega
   · have : (fun k => (listed.setIfInBounds i true).getD k false) = fun k => if k = i then true else listed.getD k false := by
       funext k
       by_cases hk : k = i
       · subst hk; simp [Array.getD, hli]
       · rw [if_neg hk]
         simp only [Array.getD_eq_getD_getElem?, Array.getElem?_setIfInBounds, if_neg (Ne.symm hk)]
     rw [this]
     exact k4
theorem CWP.setI (hm : P.follows .mixedOrders = true) {orc : Orc} (ho : GoodOrc P orc) {id : Nat} {ops : Array Oper} {cs : List CR} (hcs : ops.toList.mapM (cOper P ops) = some cs) {deps : List (List Nat)} (hd : depsOf ops = deps) (hb : backOk 0 deps = true)
    {Post : AEx → List AV → AH → Prop} {tm : List AV} {h : AH} (Inv : (Nat → Bool) → List AV → AH → Prop)
    (hstep : ∀ (i : Nat) (ds : List Nat) (L : Nat → Bool) (tm : List AV) (h : AH), deps[i]? = some ds → (∀ d ∈ ds, L d = true) → L i = false → Inv L tm h →
      ∃ c, cs[i]? = some c ∧ c.wanted tm = true ∧ ∃ v h', runOp (acall orc (tbl P)) c.op tm h = some (v, h') ∧ Inv (fun k => if k = i then true else L k) (put tm c.dst v) h')
    (hend : ∀ (L : Nat → Bool) (tm : List AV) (h : AH), (∀ i, i < deps.length → L i = true) → Inv L tm h → Post .normal tm h) (h0 : Inv (fun _ => false) tm h) : CWP P (.region id ops true) Post tm h := by
 have hl : ops.size = deps.length := by subst hd; simp [depsOf]
 refine CWP.set (good_rec hm ho) hm hcs (set_inv hd hb Inv hstep hend _ _ tm h (by simpa using hl) (by simp [List.count_replicate, hl]) ?_)
 have : (fun k => (Array.replicate ops.size false).getD k false) = fun _ => false := by
  funext k
  simp only [Array.getD_eq_getD_getElem?, Array.getElem?_replicate]
  split <;> rfl
 rw [this]
 exact h0
theorem CWP.next (hm : P.follows .mixedOrders = true) {orc : Orc} (ho : GoodOrc P orc) {c y : Code} {cc : CC} (hc : cC P c = cc) {Post : AEx → List AV → AH → Prop} {tm : List AV} {h : AH}
    (hw : CodeK (acall orc (tbl P)) (fun ex tm1 h1 => ex = .normal ∧ CWP P y Post tm1 h1) cc [] tm h) : CWP P (.seq c y) Post tm h := by
 refine CWP.seq (CWP.wp hm ho ?_)
 rw [hc]
 refine WP.mono hw fun ex tm1 h1 hp => ?_
 obtain ⟨rfl, hp⟩ := hp
 exact hp
theorem CWP.last (hm : P.follows .mixedOrders = true) {orc : Orc} (ho : GoodOrc P orc) {c : Code} {cc : CC} (hc : cC P c = cc) {Post : AEx → List AV → AH → Prop} {tm : List AV} {h : AH}
    (hw : CodeK (acall orc (tbl P)) Post cc [] tm h) : CWP P c Post tm h := by
 refine CWP.wp hm ho ?_
 rw [hc]
 exact hw
theorem CWP.setN (hm : P.follows .mixedOrders = true) {orc : Orc} (ho : GoodOrc P orc) {id : Nat} {ops : Array Oper} {y : Code} {cs : List CR} (hcs : ops.toList.mapM (cOper P ops) = some cs) {deps : List (List Nat)} (hd : depsOf ops = deps) (hb : backOk 0 deps = true)
    {Post : AEx → List AV → AH → Prop} {tm : List AV} {h : AH} (Inv : (Nat → Bool) → List AV → AH → Prop)
    (hstep : ∀ (i : Nat) (ds : List Nat) (L : Nat → Bool) (tm : List AV) (h : AH), deps[i]? = some ds → (∀ d ∈ ds, L d = true) → L i = false → Inv L tm h →
      ∃ c, cs[i]? = some c ∧ c.wanted tm = true ∧ ∃ v h', runOp (acall orc (tbl P)) c.op tm h = some (v, h') ∧ Inv (fun k => if k = i then true else L k) (put tm c.dst v) h')
    (h0 : Inv (fun _ => false) tm h) (hend : ∀ (L : Nat → Bool) (tm : List AV) (h : AH), (∀ i, i < deps.length → L i = true) → Inv L tm h → CWP P y Post tm h) : CWP P (.seq (.region id ops true) y) Post tm h :=
 CWP.seq (CWP.setI hm ho hcs hd hb Inv hstep hend h0)
def codeL : Code → Code | .seq a _ => a | c => c
def codeR : Code → Code | .seq _ b => b | c => c
def codeOps : Code → Array Oper | .region _ o _ => o | _ => #[]
def codeOf (P : Program) (f : Nat) : Code := match P.funcs[f]? with | some fn => fn.body.getD .skip | none => .skip
end Go.Fs
end

section
/- Bits. -/
namespace Go.Fs
theorem wrap_i64 {n : Int} (h1 : -9223372036854775808 ≤ n) (h2 : n ≤ 9223372036854775807) : IntKind.wrap .i64 n = n := by
 have e3 : IntKind.bits .i64 = 64 := rfl
 have e4 : IntKind.signed .i64 = true := rfl
 unfold IntKind.wrap
 simp only [e3, e4, Bool.true_and]
 have hp : (2 : Int) ^ 64 = 18446744073709551616 := by decide
 have hq : (2 : Int) ^ (64 - 1) = 9223372036854775808 := by decide
 simp only [hp, hq]
 split
 · rename_i h; simp only [decide_eq_true_eq] at h; omega
 · rename_i h; simp only [decide_eq_true_eq] at h; omega
end Go.Fs
end

section
/- Words with blanks between them, cut at the blanks, are the words. -/
namespace Go.Fs.Plain
open Go
theorem join_two (x y : List UInt8) (r : List (List UInt8)) : Lib.join (x :: y :: r) [32] = x ++ 32 :: Lib.join (y :: r) [32] := by
 rw [Lib.join_cons, Lib.join_cons]
 simp [Lib.joinTail]
end Go.Fs.Plain
end

section
/- Functions of Go's library that have no text: what the model's entries do, told ahead of the machine. -/
namespace Go.Fs
def extName (P : Program) (fn : Func) : Option (List AV → AH → Option (AV × AH)) :=
 if fn.name = "internal/abi.NoEscape" then some fun args h => match args with
  | [x] => some (x, h)
  | _ => none
 else if fn.name = "internal/bytealg.IndexByteString" then some fun args h => match args with
  | [.str s, .int .u8 c] => some (.int .i64 (Lib.indexByte s c.toNat.toUInt8), h)
  | _ => none
 else if fn.name = "internal/bytealg.CountString" then some fun args h => match args with
  | [.str s, .int .u8 c] => some (.int .i64 (Lib.countByte s c.toNat.toUInt8 : Nat), h)
  | _ => none
 else if fn.name = "internal/bytealg.MakeNoZero" then match fn.resultTypes.toList with
  | [t] => match P.underlying t with
    | some (.slice e) => some fun args h => match args with
      | [.int .i64 n] => if 0 ≤ n ∧ n ≤ 281474976710656 then some (.slice (some (h.n, 0)) n.toNat (.opn 1), (h.push (.cells (List.replicate n.toNat (.junk true)) false)).push (.typ h.n e)) else none
      | _ => none
    | _ => none
  | _ => none
 else none
def orcExt (P : Program) : Orc := fun f => match P.funcs[f]? with
 | some fn => match fn.body with
   | some _ => none
   | none => if fn.origin = "" then extName P fn else none
 | none => none
theorem next_empty : Extern.allNextRows.lookup "" = none := by kernel_rfl
theorem next_none {fn : Func} (ho : fn.origin = "") (h : Extern.allNextRows.lookup fn.name = none) : Extern.findNext fn = none := by
 unfold Extern.findNext
 simp [ho, h, next_empty]
theorem find_row {fn : Func} {e : Array Value → Sem Value} (h1 : Extern.allGenericRows.lookup fn.name = none) (h2 : Extern.allTypedRows.lookup fn.name = none) (h : Extern.allRows.lookup fn.name = some e) : Extern.find fn = some e := by
 unfold Extern.find
 simp [h1, h2, h]
theorem find_typed {fn : Func} {e : Array TypeId → Array TypeId → Array Value → Sem Value} (h1 : Extern.allGenericRows.lookup fn.name = none) (h2 : Extern.allTypedRows.lookup fn.name = some e) : Extern.find fn = some (e fn.params fn.resultTypes) := by
 unfold Extern.find
 simp [h1, h2]
theorem ext_pure {P : Program} {f : Nat} {fn : Func} {e : Array Value → Sem Value} (hf : P.funcs[f]? = some fn) (hb : fn.body = none) (hname : (fn.name == "runtime.NumGoroutine") = false)
    (hn : Extern.findNext fn = none) (he : Extern.find fn = some e) {args : List AV} {h : AH} {v : AV}
    (hrun : ∀ (ι : Emb) (w : World) (rargs : List Value), Rel P.globals.size ι h w → VRels ι args rargs → ∃ rv, (e rargs.toArray).run P w = .ok rv w ∧ VRel ι v rv) : GoodAt P f args h v h := by
 refine .inr ⟨⟨fn, hf, hb⟩, fun ι w rargs r ha => ?_⟩
 obtain ⟨rv, h1, h2⟩ := hrun ι w rargs r ha
 exact ⟨ι, rv, w, by rw [run_callFunc_extern hf hname (by simp [hb]) hn he, h1]; rfl, h2, r, Stp.refl _ _ _⟩
theorem digits_ints : ∀ (n t : Nat) (acc : Array Value), (∀ v ∈ acc.toList, ∃ k, v = .int .u8 k) → ∀ v ∈ (Extern.BytealgMakeNoZero.digits n t acc).toList, ∃ k, v = .int .u8 k
 | 0, _, _, h => h
 | n + 1, t, acc, h => by
   rw [Extern.BytealgMakeNoZero.digits]
   refine digits_ints n _ _ fun v hv => ?_
   rw [Array.toList_push, List.mem_append] at hv
   rcases hv with hv | hv
   · exact h v hv
   · simp at hv; exact ⟨_, hv⟩
theorem digits_size : ∀ (n t : Nat) (acc : Array Value), (Extern.BytealgMakeNoZero.digits n t acc).size = acc.size + n
 | 0, _, _ => rfl
 | n + 1, t, acc => by
   rw [Extern.BytealgMakeNoZero.digits, digits_size n]
   simp
   omega
theorem run_noZero {P : Program} (w : World) (ps : Array TypeId) (t e : TypeId) (ht : P.underlying t = some (.slice e)) (n : Nat) (hn : n ≤ 281474976710656) :
    ∃ cs : Array Value, (Extern.BytealgMakeNoZero.makeNoZero ps #[t] #[.int .i64 n]).run P w = .ok (.slice (some ⟨w.heap.size, 0, none⟩) n cs.size) (w.drew.drew.alloc (.cells cs e)) ∧ n ≤ cs.size ∧ cs.size ≤ maxLen ∧ ∀ v ∈ cs.toList, ∃ k, v = .int .u8 k := by
 have hdef : Extern.BytealgMakeNoZero.makeNoZero ps #[t] #[.int .i64 n] =
     (do
       let .slice elem ← underlying t | stuck "bytealg.MakeNoZero: slice type expected"
       if (n : Int) < 0 || (n : Int) > 2 ^ 48 then runtimePanic (.error "makeslice: len out of range")
       let cap ← choose (.appendCap (n : Int).toNat 0 elem)
       askRoom cap
       let bytes ← choose (.extern "internal/bytealg.MakeNoZero.bytes" 0)
       let a ← newRow elem (Extern.BytealgMakeNoZero.digits cap bytes #[])
       pure (.slice (some a) (n : Int).toNat cap)) := rfl
 refine ⟨Extern.BytealgMakeNoZero.digits (grownCap w n 0 e) ((Question.extern "internal/bytealg.MakeNoZero.bytes" 0).cut (w.tape (w.drawn + 1) (.extern "internal/bytealg.MakeNoZero.bytes" 0))) #[], ?_, ?_, ?_, digits_ints _ _ _ (by simp)⟩
 · rw [hdef]
   have h1 : ¬ (n : Int) < 0 := by omega
   have h2 : ¬ (281474976710656 : Int) < (n : Int) := by omega
   simp [run_underlying ht, h1, h2, Question.forced, newRow, digits_size, grownCap]
 · rw [digits_size]
   simpa using grownCap_ge w n 0 e
 · rw [digits_size]
   simpa using grownCap_le_maxLen w n 0 e (by have : maxLen = 9223372036854775807 := rfl; omega)
theorem one_rel' {ι : Emb} {a : AV} {rs : List Value} (h : VRels ι [a] rs) : ∃ r, rs = [r] ∧ VRel ι a r := by
 simp only [VRels] at h
 obtain ⟨r, rs', rfl, h1, rfl⟩ := h
 exact ⟨r, rfl, h1⟩
theorem two_rel' {ι : Emb} {a b : AV} {rs : List Value} (h : VRels ι [a, b] rs) : ∃ r s, rs = [r, s] ∧ VRel ι a r ∧ VRel ι b s := by
 simp only [VRels] at h
 obtain ⟨r, rs', rfl, h1, s, rs2, rfl, h2, rfl⟩ := h
 exact ⟨r, s, rfl, h1, h2⟩
theorem good_ext (P : Program) : GoodOrc P (orcExt P) := by
 intro f s hs args h v h' hv
 unfold orcExt at hs
 cases hf : P.funcs[f]? with
 | none => simp [hf] at hs
 | some fn =>
   simp only [hf] at hs
   cases hb : fn.body with
   | some b => simp [hb] at hs
   | none =>
     simp only [hb] at hs
     split at hs
     · rename_i ho
       unfold extName at hs
       split at hs
       · rename_i hnm
         cases hs
         simp only at hv
         split at hv
         · rename_i x
           cases hv
           refine ext_pure hf hb (by rw [hnm]; decide) (next_none ho (by rw [hnm]; kernel_rfl)) (e := Extern.AbiNoEscape.same) (find_row (by rw [hnm]; kernel_rfl) (by rw [hnm]; kernel_rfl) (by rw [hnm]; kernel_rfl)) fun ι w rargs r ha => ?_
           obtain ⟨rx, rfl, h1⟩ := one_rel' ha
           exact ⟨rx, rfl, h1⟩
         · cases hv
       split at hs
       · rename_i hnm
         cases hs
         simp only at hv
         split at hv
         · rename_i x c
           cases hv
           refine ext_pure hf hb (by rw [hnm]; decide) (next_none ho (by rw [hnm]; kernel_rfl)) (e := Extern.BytealgIndexByte.indexByte) (find_row (by rw [hnm]; kernel_rfl) (by rw [hnm]; kernel_rfl) (by rw [hnm]; kernel_rfl)) fun ι w rargs r ha => ?_
           obtain ⟨rx, ry, rfl, h1, h2⟩ := two_rel' ha
           rw [str_of h1, int_of h2]
           exact ⟨_, Lib.run_indexByteString _ _ w, by simp [VRel]⟩
         · cases hv
       split at hs
       · rename_i hnm
         cases hs
         simp only at hv
         split at hv
         · rename_i x c
           cases hv
           refine ext_pure hf hb (by rw [hnm]; decide) (next_none ho (by rw [hnm]; kernel_rfl)) (e := Extern.BytealgCount.count) (find_row (by rw [hnm]; kernel_rfl) (by rw [hnm]; kernel_rfl) (by rw [hnm]; kernel_rfl)) fun ι w rargs r ha => ?_
           obtain ⟨rx, ry, rfl, h1, h2⟩ := two_rel' ha
           rw [str_of h1, int_of h2]
           exact ⟨_, Lib.run_countString _ _ w, by simp [VRel]⟩
         · cases hv
       split at hs
       · rename_i hnm
         split at hs
         · rename_i t ht
           split at hs
           · rename_i e hu
             cases hs
             simp only at hv
             split at hv
             · rename_i n
               split at hv
               · rename_i hle
                 cases hv
                 have hres : fn.resultTypes = #[t] := by apply Array.ext'; simpa using ht
                 refine .inr ⟨⟨fn, hf, hb⟩, fun ι w rargs r ha => ?_⟩
                 obtain ⟨rx, rfl, h1⟩ := one_rel' ha
                 rw [int_of h1]
                 obtain ⟨cs, g1, g2, g2m, g3⟩ := run_noZero (P := P) w fn.params t e hu n.toNat (by omega)
                 rw [show ((n.toNat : Nat) : Int) = n by omega] at g1
                 have hcall := run_callFunc_extern hf (by rw [hnm]; decide) (by simp [hb]) (next_none ho (by rw [hnm]; kernel_rfl)) (find_typed (e := Extern.BytealgMakeNoZero.makeNoZero) (by rw [hnm]; kernel_rfl) (by rw [hnm]; kernel_rfl)) [Value.int .i64 n].toArray w
                 rw [hres, g1] at hcall
                 obtain ⟨k1, k2⟩ := new_ok (G := P.globals.size) (r.drew.drew) e (cs := List.replicate n.toNat (.junk true)) (arr := cs) (fun i c hc => by
                  obtain ⟨hi, hci⟩ := List.getElem?_eq_some_iff.1 hc
                  simp only [List.length_replicate] at hi
                  simp only [List.getElem_replicate] at hci
                  subst hci
                  obtain ⟨k, hk⟩ := g3 (cs[i]'(by omega)) (by simp)
                  refine ⟨cs[i]'(by omega), by simp, ?_⟩
                  rw [hk]
                  simp only [VRel]
                  exact ⟨rfl, fun b hb => (by cases hb), fun _ => rfl⟩) (fun j v hj hv => by
                  obtain ⟨k, hk⟩ := g3 v (List.mem_of_getElem? (i := j) (by rw [Array.getElem?_toList]; exact hv))
                  exact ⟨.int .u8 k, fun _ => by simp [VRel, hk]⟩)
                 have hn : ι.n = h.n := r.n
                 have hdz : w.drew.drew.heap.size = w.heap.size := rfl
                 obtain ⟨k3, k4⟩ := pushTyp k1 (b := h.n) (t := e) (by rw [← hn]; simp) (by rw [← hn]; simp) (by rw [← hn]; simp)
                 refine ⟨_, _, _, hcall, ?_, k3, (((Stp.drew ι h w).trans (Stp.drew ι h w.drew)).trans k2).trans k4⟩
                 refine VRel.mono (Emb.le_add _ _ _ _ _) ?_
                 simp only [VRel]
                 refine ⟨by rw [← hn]; simp, by omega, 0, cs.size, by rw [← hn]; simp [hdz], g2m, .inl ⟨by rw [← hn]; simp, by omega, by rw [← hn]; simp⟩⟩
               · cases hv
             · cases hv
           · cases hs
         · cases hs
       · cases hs
     · cases hs
end Go.Fs
end

section
/- A law whose code has a region of open order, over variables that read as listed. -/
namespace Go.Fs
open Go Go.RowKit Go.ChangeShapes
section
variable {H : Type} {enc : TypeId × Value → H} {P : Program}
theorem law_laidC {f k : Nat} {fn : Func} {b : Code} (hfn : P.funcs[f]? = some fn) (hb : fn.body = some b) {rs : List CRes} (hrs : fn.results.toList.mapM (cRes P) = some rs) {opq : TypeId → Bool} {fuel : Nat} {ts : List TypeId} {vs : Array Value} {ds : List (DataW H)} {ps : List MemPlace} {w : World} {base : Nat} {as : List AV} {h0 h : AH} {x : Bool}
    {laid : List (String × DataW Unit)} (ht : DataW.TrodAll enc P w 0 (fun _ => true) true ts vs.toList ds ps) (hok : ∀ (j : Nat) t v, ts[j]? = some t → vs.toList[j]? = some v → Value.okWide P w .any base t v)
    (hl : absLaid P k laid (start P.globals.size) = some h0) (hw : laidMet P laid w) {g : Nat} (hg : g < P.globals.size) {m : Int} (hc : w.cell? ⟨g, 0, none⟩ = some (.int .i64 m))
    (ha : absArgs P opq fuel ts ds (h0.set g (.cells [.int .i64 m] true)) = some (as, h))
    (hr : CWP P b (fun ex tm' h1 => (ex = .normal ∨ ex = .ret) ∧ resAll tm' h1 rs = some (.bool x) ∧ h.n ≤ h1.n ∧ h.n ≤ h1.low) (as ++ List.replicate (fn.ntmps - as.length) AV.undef) (h.withLow h.n)) :
    Calls P f vs w fun e w' => e = .returned (.bool x) ∧ Below w.heap.size w w' := by
 obtain ⟨ps0, hv, _⟩ := hw
 obtain ⟨ι, r, hro, hle⟩ := laid_rel hv hl (start_relW P.globals.size w) (fun b c hb => by rw [start_get] at hb; cases hb) (Emb.le_refl _)
 obtain ⟨r2, ro2⟩ := r.setVar hro hle hg hc (a := .int .i64 m) (by simp [VRel])
 obtain ⟨ι', r3, _, ro3, v⟩ := openArgs ht hok r2 ro2 ha
 have key : Calls P f vs.toList.toArray w fun e w' => e = .returned (.bool x) ∧ Below w.heap.size w w' := (calls_cwp hfn hb hrs hr r3 v).mono fun _ _ ⟨_, _, he, hv, _, s⟩ => ⟨by rw [he, bool_of hv], below_of s ro3⟩
 simpa using key
end
end Go.Fs
end

