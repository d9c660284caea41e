/- The abstract machine of the Fs texts, part 5: what it runs, and that each of its runs is one of the program. -/
import Derived.Test.YtlppecefalblmaaGreatDoorFz03
import GoSem.ClaimJoined
import Derived.Handed
section
/- The quick machine: operations, regions, code, calls: it tells just what the machine tells. -/
namespace Go.Fs
noncomputable def ob {α β : Type} (r : Option α) (k : α → Option β) : Option β := Option.rec none k r
noncomputable def paK {ρ : Type} (p : Pa) (k : Pa → ρ) : ρ := Pa.rec (fun k => k .z) (fun _ ih k => ih fun q => k (.l q)) (fun _ ih k => ih fun q => k (.r q)) p k
theorem paK_eq {ρ : Type} : ∀ (p : Pa) (k : Pa → ρ), paK p k = k p
 | .z, _ => rfl
 | .l p, k => paK_eq p fun q => k (.l q)
 | .r p, k => paK_eq p fun q => k (.r q)
noncomputable def atP (p : Pa) : TT → AV := fun t => Option.rec AV.undef (fun v => v) (getP p t)
noncomputable def mkEv (n : Nat) (x : CA) : Option (TT → AV) :=
 CA.rec (fun i => Bool.rec (some fun _ => AV.undef) (paK (toPa i) fun p => some (atP p)) (Nat.ble (Nat.succ i) n)) (fun v => some fun _ => v) (fun i => some fun _ => .ptr (some (i, 0))) (fun i => some fun _ => .func (.func i) [] []) x
theorem mkEv_eq (n : Nat) (x : CA) : ∃ g, mkEv n x = some g ∧ ∀ t, g t = x.ev (tmL n t) := by
 cases x with
 | t i =>
   have h1 : mkEv n (.t i) = @Bool.rec (fun _ => Option (TT → AV)) (some fun _ => AV.undef) (paK (toPa i) fun p => some (atP p)) (Nat.ble (Nat.succ i) n) := rfl
   have h2 : ∀ t, (CA.t i).ev (tmL n t) = (tmL n t).getD i AV.undef := fun _ => rfl
   rw [h1, ble_lt, paK_eq]
   by_cases h : i < n
   · exact ⟨atP (toPa i), by simp [h], fun t => by rw [h2, tmL_getD, if_pos h]; rfl⟩
   · exact ⟨fun _ => AV.undef, by simp [h], fun t => by rw [h2, tmL_getD, if_neg h]⟩
 | c v => exact ⟨_, rfl, fun _ => rfl⟩
 | g i => exact ⟨_, rfl, fun _ => rfl⟩
 | f i => exact ⟨_, rfl, fun _ => rfl⟩
noncomputable def mkEvs (n : Nat) (xs : List CA) : Option (TT → List AV) :=
 List.rec (some fun _ => []) (fun x _ ih => ob (mkEv n x) fun g => ob ih fun gs => some fun t => g t :: gs t) xs
theorem mkEvs_eq (n : Nat) : ∀ xs : List CA, ∃ g, mkEvs n xs = some g ∧ ∀ t, g t = xs.map (CA.ev (tmL n t))
 | [] => ⟨_, rfl, fun _ => rfl⟩
 | x :: xs => by
   obtain ⟨g, h1, h2⟩ := mkEv_eq n x
   obtain ⟨gs, h3, h4⟩ := mkEvs_eq n xs
   refine ⟨fun t => g t :: gs t, ?_, fun t => by simp [h2, h4]⟩
   show ob (mkEv n x) (fun g => ob (mkEvs n xs) fun gs => some fun t => g t :: gs t) = _
   rw [h1, h3]; rfl
section
variable (ρ : Type)
abbrev QOp := Rec → TT → AH → (AV → AH → Option ρ) → Option ρ
end
section
variable {ρ : Type}
noncomputable def mkPut (n : Nat) (d : Option Nat) : Option (AV → TT → (TT → Option ρ) → Option ρ) :=
 Option.rec (some fun _ t k => k t) (fun i => Bool.rec (some fun _ t k => k t) (paK (toPa i) fun p => some fun v t k => setK p v t k) (Nat.ble (Nat.succ i) n)) d
theorem mkPut_eq (n : Nat) (d : Option Nat) : ∃ g, mkPut (ρ := ρ) n d = some g ∧ ∀ v t k, g v t k = k (putT n d v t) := by
 cases d with
 | none => exact ⟨_, rfl, fun _ _ _ => rfl⟩
 | some i =>
   have h1 : mkPut (ρ := ρ) n (some i) = @Bool.rec (fun _ => Option (AV → TT → (TT → Option ρ) → Option ρ)) (some fun _ t k => k t) (paK (toPa i) fun p => some fun v t k => setK p v t k) (Nat.ble (Nat.succ i) n) := rfl
   rw [h1, ble_lt, paK_eq]
   by_cases h : i < n
   · refine ⟨fun v t k => setK (toPa i) v t k, by simp [h], fun v t k => ?_⟩
     simp only [putT, h, if_true]
     exact setK_eq v (i + 1) i (by omega) t (i + 1) (by omega) k
   · exact ⟨fun _ t k => k t, by simp [h], fun v t k => by simp [putT, h]⟩
noncomputable def slowOp (n : Nat) (o : CO) : QOp ρ := fun call t h k => resK (runOp call o (tmL n t) h) k
noncomputable def qMv (x : TT → AV) : QOp ρ := fun _ t h k => k (x t) h
noncomputable def qBin (f : AV → AV → Option AV) (x y : TT → AV) : QOp ρ := fun _ t h k => optK (f (x t) (y t)) fun v => k v h
noncomputable def qFaddr (off : Nat) (x : TT → AV) : QOp ρ := fun _ t h k => onPtr (x t) fun b o => natK (Nat.add o off) fun o' => k (.ptr (some (b, o'))) h
noncomputable def qLoad (agg : Option Nat) (a : TT → AV) : QOp ρ := fun _ t h k => onPtr (a t) fun b o => optK (readVarF h b o agg) fun v => k v h
noncomputable def qFld (off : Nat) (agg : Option Nat) (x : TT → AV) : QOp ρ := fun _ t h k => onAgg (x t) fun cs => optK (partOfF agg cs off) fun v => k v h
noncomputable def qExt (i : Nat) (x : TT → AV) : QOp ρ := fun _ t h k => onTuple (x t) fun vs => optK (nthF vs i) fun v => k v h
noncomputable def qIaddrS (esz : Nat) (x i : TT → AV) : QOp ρ := fun _ t h k =>
 onSlice (x t) fun a len => Option.rec none (fun p => Prod.rec (fun b o => onInt (i t) fun _ j =>
  Int.rec (fun m => Bool.rec none (natK (Nat.add o (Nat.mul m esz)) fun o' => k (.ptr (some (b, o'))) h) (Nat.ble (Nat.succ m) len)) (fun _ => none) j) p) a
noncomputable def qIaddrA (len esz : Nat) (x i : TT → AV) : QOp ρ := fun _ t h k =>
 onPtr (x t) fun b o => onInt (i t) fun _ j =>
  Int.rec (fun m => Bool.rec none (natK (Nat.add o (Nat.mul m esz)) fun o' => k (.ptr (some (b, o'))) h) (Nat.ble (Nat.succ m) len)) (fun _ => none) j
noncomputable def qIdxS (x i : TT → AV) : QOp ρ := fun _ t h k =>
 onStr (x t) fun s => onInt (i t) fun _ j =>
  Int.rec (fun m => Option.rec none (fun b => natK (UInt8.toNat b) fun c => k (.int .u8 (.ofNat c)) h) (nthF s m)) (fun _ => none) j
noncomputable def qToInt (kd : IntKind) (x : TT → AV) : QOp ρ := fun _ t h k => onInt (x t) fun _ m => intK (wrapF kd m) fun m' => k (.int kd m') h
noncomputable def qLenV (x : TT → AV) : QOp ρ := fun _ t h k => onSlice (x t) fun _ m => k (.int .i64 (.ofNat m)) h
noncomputable def qPick (c a b : TT → AV) : QOp ρ := fun _ t h k => onBool (c t) fun q => Bool.rec (k (b t) h) (k (a t) h) q
noncomputable def qAlloc (zero : List AV) : QOp ρ := fun _ _ h k => natK h.n fun m => hpush h (.cells zero false) fun h' => k (.ptr (some (m, 0))) h'
noncomputable def qStore1 (slow : QOp ρ) (a x : TT → AV) : QOp ρ := fun call t h k =>
 Bool.rec (slow call t h k) (onPtr (a t) fun b o => store1 h b o (x t) fun h' => k AV.undef h') (AV.one (x t))
noncomputable def qCall (f : TT → AV) (as : TT → List AV) : QOp ρ := fun call t h k =>
 onFunc (f t) fun g first captured => resK (call g (first ++ as t ++ captured) h) k
def vNil (v : AV) : Option AV := match v with
 | .ptr (some p) => some (.ptr (some p))
 | .func (.func f) fi ca => some (.func (.func f) fi ca)
 | _ => none
def vStr (v : AV) : Option AV := match v with
 | .str s => some (.str s)
 | _ => none
def vB2s (h : AH) (v : AV) : Option AV := match v with
 | .slice none _ _ => some (.str [])
 | .slice (some (b, o)) n _ => (readCells h b o n).bind fun cs => (bytesOf cs).map .str
 | _ => none
def vLenS (v : AV) : Option AV := match v with
 | .str s => some (.int .i64 s.length)
 | _ => none
def vCap (v : AV) : Option AV := match v with
 | .slice _ _ (.exact n) => some (.int .i64 n)
 | _ => none
def vMin (x y : AV) : Option AV := match x, y with
 | .int k a, .int _ b => some (.int k (if b < a then b else a))
 | _, _ => none
def vMax (x y : AV) : Option AV := match x, y with
 | .int k a, .int _ b => some (.int k (if a < b then b else a))
 | _, _ => none
def vLenM (h : AH) (v : AV) : Option AV := match v with
 | .map none => some (.int .i64 0)
 | .map (some r) => match h.get r with
   | some (.map es) => some (.int .i64 es.length)
   | _ => none
 | _ => none
def vLookup (q : SK) (zero : AV) (ok : Bool) (h : AH) (m k : AV) : Option AV := match m with
 | .map none => if scalar q k then some (if ok then .tuple [zero, .bool false] else zero) else none
 | .map (some r) => match h.get r with
   | some (.map es) => if scalar q k then (mapFind q k es).map fun
       | some v => if ok then .tuple [v, .bool true] else v
       | none => if ok then .tuple [zero, .bool false] else zero
     else none
   | _ => none
 | _ => none
def vSlcS (tm : List AV) (lo hi : Option CA) (v : AV) : Option AV := match v with
 | .str s => (bounds3 tm s.length s.length lo hi none).map fun (l, hh, _) => .str ((s.drop l).take (hh - l))
 | _ => none
def vSlcV (esz : Nat) (tm : List AV) (lo hi mx : Option CA) (v : AV) : Option AV := match v with
 | .slice a len (.exact cap) => (bounds3 tm len cap lo hi mx).map fun (l, hh, m) =>
     .slice (if m = l then a else a.map fun (b, o) => (b, o + l * esz)) (hh - l) (.exact (m - l))
 | .slice (some (b, o)) len (.opn e) =>
   match mx with
   | none => if e = esz then (bounds3 tm len len lo hi none).map fun (l, hh, _) => .slice (some (b, o + l * esz)) (hh - l) (.opn esz) else none
   | some _ => (bounds3 tm len len lo hi mx).bind fun (l, hh, m) => if m = l then none else some (.slice (some (b, o + l * esz)) (hh - l) (.exact (m - l)))
 | _ => none
def vSdata (v : AV) : Option AV := match v with
 | .slice none _ _ => some (.ptr none)
 | .slice (some p) len (.opn _) => if 0 < len then some (.ptr (some p)) else none
 | .slice (some p) _ (.exact c) => if 0 < c then some (.ptr (some p)) else none
 | _ => none
def vToUns (h : AH) (v : AV) : Option AV := match v with
 | .ptr none => some (.ptr none)
 | .ptr (some (b, o)) => (readCell h b o).map fun _ => .ptr (some (b, o))
 | _ => none
def vFromUns (t n : Nat) (h : AH) (v : AV) : Option AV := match v with
 | .ptr none => some (.ptr none)
 | .ptr (some (b, o)) => if typed h t (.ptr (some (b, o))) then (readCells h b 0 n).map fun _ => .ptr (some (b, o)) else none
 | _ => none
def eBox (h : AH) (v : AV) : Option (AV × AH) := if v.cells.all AV.one then some (.ptr (some (h.n, 0)), h.push (.cells v.cells false)) else none
def eStore (n : Nat) (h : AH) (a v : AV) : Option (AV × AH) := match a with
 | .ptr (some (b, o)) => if v.cells.length = n then (writeCells h b o v.cells).map fun h' => (AV.undef, h') else none
 | _ => none
def eMkS (bytes : Nat) (zero : List AV) (h : AH) (l c : AV) : Option (AV × AH) := match l, c with
 | .int _ l, .int _ c => if 0 ≤ l ∧ l ≤ c ∧ bytes * c ≤ 281474976710656 ∧ c ≤ 1152921504606846976 then
     some (.slice (some (h.n, 0)) l.toNat (.exact c.toNat), h.push (.cells (reps zero c.toNat) false)) else none
 | _, _ => none
def eMkST (t bytes : Nat) (zero : List AV) (h : AH) (l c : AV) : Option (AV × AH) := match l, c with
 | .int _ l, .int _ c => if 0 ≤ l ∧ l ≤ c ∧ bytes * c ≤ 281474976710656 ∧ c ≤ 1152921504606846976 then
     some (.slice (some (h.n, 0)) l.toNat (.exact c.toNat), (h.push (.cells (reps zero c.toNat) false)).push (.typ h.n t)) else none
 | _, _ => none
def eLitS (len : Nat) (zero : List AV) (places : List (Nat × Nat × CA)) (tm : List AV) (h : AH) : Option (AV × AH) := match fillA tm (reps zero len) places with
 | some cs => if cs.all AV.one then some (.slice (some (h.n, 0)) len (.exact len), h.push (.cells cs false)) else none
 | none => none
def eMapset (q : SK) (h : AH) (m k v : AV) : Option (AV × AH) := match m with
 | .map (some r) => match h.get r with
   | some (.map es) => if scalar q k then (mapPut q k v es).map fun es' => (AV.undef, h.set r (.map es')) else none
   | _ => none
 | _ => none
def eAppT (t esz bytes : Nat) (h : AH) (s x : AV) : Option (AV × AH) := (appendRun esz bytes s x h).map fun (v, h') => (v, noteT (typed h t s) t h.n h')
def eCopy (esz : Nat) (h : AH) (d s : AV) : Option (AV × AH) := match d with
 | .slice base dLen _ => (lenOf s).bind fun n => (elemsOf esz h s).bind fun xs =>
   let k := min n dLen
   match base with
   | none => some (.int .i64 k, h)
   | some (b, o) => if k = 0 then some (.int .i64 k, h) else (writeCells h b o (xs.take (k * esz))).map fun h' => (.int .i64 k, h')
 | _ => none
def eS2b (h : AH) (v : AV) : Option (AV × AH) := match v with
 | .str s => if s.length ≤ 1152921504606846976 then some (.slice (some (h.n, 0)) s.length (.opn 1), h.push (.cells (ofBytes s) false)) else none
 | _ => none
def eUstr (t : Nat) (h : AH) (p n : AV) : Option (AV × AH) := match p, n with
 | .ptr none, .int .i64 l => if l = 0 then some (.str [], h) else none
 | .ptr (some (b, o)), .int .i64 l => if l = 0 then some (.str [], h) else
   if 0 < l ∧ l ≤ 1152921504606846976 ∧ typed h t (.ptr (some (b, o))) = true then
    match h.get b with
    | some (.cells c false) => (cut c 0 l.toNat).bind fun cs => (bytesIn cs).map fun s => (.str s, h.set b (.cells c true))
    | _ => none
   else none
 | _, _ => none
def eIterS (h : AH) (v : AV) : Option (AV × AH) := match v with
 | .str s => some (.ptr (some (h.n, 0)), h.push (.iter s 0))
 | _ => none
def eNextS (h : AH) (v : AV) : Option (AV × AH) := match v with
 | .ptr (some (b, 0)) => match h.get b with
   | some (.iter s pos) =>
     if pos < s.length then
      let d := Utf8.decode ⟨s.toArray⟩ pos
      some (.tuple [.bool true, .int .i64 pos, .int .i32 d.1], h.set b (.iter s (pos + d.2)))
     else some (.tuple [.bool false], h)
   | _ => none
 | _ => none
noncomputable def q1 (f : AV → Option AV) (x : TT → AV) : QOp ρ := fun _ t h k => optK (f (x t)) fun v => k v h
noncomputable def q1h (f : AH → AV → Option AV) (x : TT → AV) : QOp ρ := fun _ t h k => optK (f h (x t)) fun v => k v h
noncomputable def q2h (f : AH → AV → AV → Option AV) (x y : TT → AV) : QOp ρ := fun _ t h k => optK (f h (x t) (y t)) fun v => k v h
noncomputable def e1 (f : AH → AV → Option (AV × AH)) (x : TT → AV) : QOp ρ := fun _ t h k => resK (f h (x t)) k
noncomputable def e2 (f : AH → AV → AV → Option (AV × AH)) (x y : TT → AV) : QOp ρ := fun _ t h k => resK (f h (x t) (y t)) k
noncomputable def e3 (f : AH → AV → AV → AV → Option (AV × AH)) (x y z : TT → AV) : QOp ρ := fun _ t h k => resK (f h (x t) (y t) (z t)) k
noncomputable def mkO (n : Nat) (x : Option CA) : Option (TT → Option CA) := Option.rec (some fun _ => none) (fun x => ob (mkEv n x) fun g => some fun t => some (.c (g t))) x
theorem mkO_eq (n : Nat) (x : Option CA) : ∃ g, mkO n x = some g ∧ ∀ t, (g t).isSome = x.isSome ∧ (∀ y tm d, optBound tm y d (g t) = optBound (tmL n t) y d x) ∧ (∀ tm m len mx mx', mx.isSome = mx'.isSome → highOf tm m len (g t) mx = highOf (tmL n t) m len x mx') := by
 cases x with
 | none =>
   refine ⟨_, rfl, fun t => ⟨rfl, fun _ _ _ => rfl, fun tm m len mx mx' h => ?_⟩⟩
   cases mx <;> cases mx' <;> first | rfl | (simp at h)
 | some x =>
   obtain ⟨g, h1, h2⟩ := mkEv_eq n x
   refine ⟨fun t => some (.c (g t)), by show ob (mkEv n x) _ = _; rw [h1]; rfl, fun t => ⟨rfl, fun y tm d => ?_, fun tm m len mx mx' _ => ?_⟩⟩
   · show bound y (g t) = bound y (x.ev (tmL n t)); rw [h2]
   · show bound m (g t) = bound m (x.ev (tmL n t)); rw [h2]
theorem bounds_eq {tm tm' : List AV} {len cap : Nat} {lo hi mx lo' hi' mx' : Option CA} (hl : ∀ y d, optBound tm y d lo = optBound tm' y d lo') (hh : ∀ m, highOf tm m len hi mx = highOf tm' m len hi' mx') (hm : ∀ y d, optBound tm y d mx = optBound tm' y d mx') :
    bounds3 tm len cap lo hi mx = bounds3 tm' len cap lo' hi' mx' := by
 unfold bounds3
 simp only [hl, hh, hm]
noncomputable def qSlcS (x : TT → AV) (lo hi : TT → Option CA) : QOp ρ := fun _ t h k => optK (vSlcS [] (lo t) (hi t) (x t)) fun v => k v h
noncomputable def qSlcV (esz : Nat) (x : TT → AV) (lo hi mx : TT → Option CA) : QOp ρ := fun _ t h k => optK (vSlcV esz [] (lo t) (hi t) (mx t) (x t)) fun v => k v h
noncomputable def mkPs (n : Nat) (ps : List (Nat × Nat × CA)) : Option (TT → List (Nat × Nat × CA)) :=
 List.rec (some fun _ => []) (fun p _ ih => Prod.rec (fun off q => Prod.rec (fun sz x => ob (mkEv n x) fun g => ob ih fun gs => some fun t => (off, sz, .c (g t)) :: gs t) q) p) ps
theorem mkPs_eq (n : Nat) : ∀ ps : List (Nat × Nat × CA), ∃ g, mkPs n ps = some g ∧ ∀ t tm cs, fillA tm cs (g t) = fillA (tmL n t) cs ps
 | [] => ⟨_, rfl, fun _ _ _ => rfl⟩
 | (off, sz, x) :: ps => by
   obtain ⟨g, h1, h2⟩ := mkEv_eq n x
   obtain ⟨gs, h3, h4⟩ := mkPs_eq n ps
   refine ⟨fun t => (off, sz, .c (g t)) :: gs t, ?_, fun t tm cs => ?_⟩
   · show ob (mkEv n x) (fun g => ob (mkPs n ps) fun gs => some fun t => (off, sz, .c (g t)) :: gs t) = _
     rw [h1, h3]; rfl
   · have e : (CA.c (g t)).ev tm = x.ev (tmL n t) := by rw [← h2]; rfl
     simp only [fillA, e, h4]
noncomputable def qBuild (zero : List AV) (ps : TT → List (Nat × Nat × CA)) : QOp ρ := fun _ t h k => optK ((fillA [] zero (ps t)).map .agg) fun v => k v h
noncomputable def qLitS (len : Nat) (zero : List AV) (ps : TT → List (Nat × Nat × CA)) : QOp ρ := fun _ t h k => resK (eLitS len zero (ps t) [] h) k
noncomputable def qIface (ty : Nat) (x : TT → AV) : QOp ρ := fun _ t h k => k (.iface ty (x t)) h
noncomputable def mkOp (n : Nat) (o : CO) : Option (QOp ρ) :=
 match o with
 | .mv x => ob (mkEv n x) fun x => some (qMv x)
 | .pick c a b => ob (mkEv n c) fun c => ob (mkEv n a) fun a => ob (mkEv n b) fun b => some (qPick c a b)
 | .bin op e x y => ob (mkEv n x) fun x => ob (mkEv n y) fun y => ob (mkBin op e) fun f => some (qBin f x y)
 | .faddr off x => ob (mkEv n x) fun x => some (qFaddr off x)
 | .load agg a => ob (mkEv n a) fun a => some (qLoad agg a)
 | .fld off agg x => ob (mkEv n x) fun x => some (qFld off agg x)
 | .ext i x => ob (mkEv n x) fun x => some (qExt i x)
 | .iaddrS esz x i => ob (mkEv n x) fun x => ob (mkEv n i) fun i => some (qIaddrS esz x i)
 | .iaddrA len esz x i => ob (mkEv n x) fun x => ob (mkEv n i) fun i => some (qIaddrA len esz x i)
 | .idxS x i => ob (mkEv n x) fun x => ob (mkEv n i) fun i => some (qIdxS x i)
 | .toInt kd x => ob (mkEv n x) fun x => some (qToInt kd x)
 | .lenV x => ob (mkEv n x) fun x => some (qLenV x)
 | .alloc zero => some (qAlloc zero)
 | .store m a x => ob (mkEv n a) fun ga => ob (mkEv n x) fun gx => Bool.rec (some (e2 (eStore m) ga gx)) (some (qStore1 (e2 (eStore 1) ga gx) ga gx)) (Nat.beq m 1)
 | .call f as => ob (mkEv n f) fun f => ob (mkEvs n as) fun as => some (qCall f as)
 | .nilchk x => ob (mkEv n x) fun x => some (q1 vNil x)
 | .un op x => ob (mkEv n x) fun x => some (q1 (aun op) x)
 | .strId x => ob (mkEv n x) fun x => some (q1 vStr x)
 | .lenS x => ob (mkEv n x) fun x => some (q1 vLenS x)
 | .cap x => ob (mkEv n x) fun x => some (q1 vCap x)
 | .sdata x => ob (mkEv n x) fun x => some (q1 vSdata x)
 | .b2s x => ob (mkEv n x) fun x => some (q1h vB2s x)
 | .lenM x => ob (mkEv n x) fun x => some (q1h vLenM x)
 | .toUns x => ob (mkEv n x) fun x => some (q1h vToUns x)
 | .fromUns ty m x => ob (mkEv n x) fun x => some (q1h (vFromUns ty m) x)
 | .minI x y => ob (mkEv n x) fun x => ob (mkEv n y) fun y => some (qBin vMin x y)
 | .maxI x y => ob (mkEv n x) fun x => ob (mkEv n y) fun y => some (qBin vMax x y)
 | .lookup q z ok x y => ob (mkEv n x) fun x => ob (mkEv n y) fun y => some (q2h (vLookup q z ok) x y)
 | .iface ty x => ob (mkEv n x) fun x => some (qIface ty x)
 | .slcS x lo hi => ob (mkEv n x) fun x => ob (mkO n lo) fun lo => ob (mkO n hi) fun hi => some (qSlcS x lo hi)
 | .slcV e x lo hi mx => ob (mkEv n x) fun x => ob (mkO n lo) fun lo => ob (mkO n hi) fun hi => ob (mkO n mx) fun mx => some (qSlcV e x lo hi mx)
 | .build z ps => ob (mkPs n ps) fun ps => some (qBuild z ps)
 | .litS _ len z ps => ob (mkPs n ps) fun ps => some (qLitS len z ps)
 | .box x => ob (mkEv n x) fun x => some (e1 eBox x)
 | .s2b x => ob (mkEv n x) fun x => some (e1 eS2b x)
 | .iterS x => ob (mkEv n x) fun x => some (e1 eIterS x)
 | .nextS x => ob (mkEv n x) fun x => some (e1 eNextS x)
 | .mkS b _ z x y => ob (mkEv n x) fun x => ob (mkEv n y) fun y => some (e2 (eMkS b z) x y)
 | .mkST ty b _ z x y => ob (mkEv n x) fun x => ob (mkEv n y) fun y => some (e2 (eMkST ty b z) x y)
 | .append e b x y => ob (mkEv n x) fun x => ob (mkEv n y) fun y => some (e2 (fun h s x => appendRun e b s x h) x y)
 | .appendT ty e b x y => ob (mkEv n x) fun x => ob (mkEv n y) fun y => some (e2 (eAppT ty e b) x y)
 | .copy e x y => ob (mkEv n x) fun x => ob (mkEv n y) fun y => some (e2 (eCopy e) x y)
 | .ustr ty x y => ob (mkEv n x) fun x => ob (mkEv n y) fun y => some (e2 (eUstr ty) x y)
 | .mapset q x y z => ob (mkEv n x) fun x => ob (mkEv n y) fun y => ob (mkEv n z) fun z => some (e3 (eMapset q) x y z)
 | o => some (slowOp n o)
def Right (n : Nat) (o : CO) (f : QOp ρ) : Prop := ∀ call t h k, f call t h k = (runOp call o (tmL n t) h).bind fun p => k p.1 p.2
theorem slow_right (n : Nat) (o : CO) : Right n o (slowOp (ρ := ρ) n o) := fun call t h k => by unfold slowOp; rw [resK_eq]
theorem quiet_bind {o : CO} (hq : o.quiet = true) (call : Rec) (tm : List AV) (h : AH) (k : AV → AH → Option ρ) : ((runOp call o tm h).bind fun p => k p.1 p.2) = (quietRun o tm h).bind fun v => k v h := by
 unfold runOp
 rw [if_pos hq]
 cases quietRun o tm h <;> rfl
theorem int_dec {ρ : Type} (m len : Nat) (x : Option ρ) : (@Bool.rec (fun _ => Option ρ) none x (Nat.ble (Nat.succ m) len)) = if m < len then x else none := by
 rw [ble_lt]
 by_cases h : m < len <;> simp [h]
theorem mkOp_right (n : Nat) (o : CO) : ∃ f, mkOp (ρ := ρ) n o = some f ∧ Right n o f := by
 cases o
 case mv x =>
  obtain ⟨gx, h1, hx⟩ := mkEv_eq n x
  exact ⟨qMv gx, by simp only [mkOp, h1, ob], fun call t h k => by rw [quiet_bind rfl]; simp only [qMv, quietRun, hx]; rfl⟩
 case pick c a b =>
  obtain ⟨gc, h1, hc⟩ := mkEv_eq n c
  obtain ⟨ga, h2, ha⟩ := mkEv_eq n a
  obtain ⟨gb, h3, hb⟩ := mkEv_eq n b
  refine ⟨qPick gc ga gb, by simp only [mkOp, h1, h2, h3, ob], fun call t h k => ?_⟩
  rw [quiet_bind rfl]
  simp only [qPick, quietRun, hc, ha, hb]
  cases c.ev (tmL n t) <;> try rfl
  rename_i q
  cases q <;> rfl
 case bin op e x y =>
  obtain ⟨gx, h1, hx⟩ := mkEv_eq n x
  obtain ⟨gy, h2, hy⟩ := mkEv_eq n y
  obtain ⟨f, h3, hf⟩ := mkBin_eq op e
  refine ⟨qBin f gx gy, by simp only [mkOp, h1, h2, h3, ob], fun call t h k => ?_⟩
  rw [quiet_bind rfl]
  simp only [qBin, quietRun, hx, hy, optK_eq, hf]
 case faddr off x =>
  obtain ⟨gx, h1, hx⟩ := mkEv_eq n x
  refine ⟨qFaddr off gx, by simp only [mkOp, h1, ob], fun call t h k => ?_⟩
  rw [quiet_bind rfl]
  simp only [qFaddr, quietRun, hx]
  cases x.ev (tmL n t) <;> try rfl
  rename_i a
  cases a with
  | none => rfl
  | some p => obtain ⟨b, o⟩ := p; simp only [onPtr, natK_eq]; rfl
 case load agg a =>
  obtain ⟨gx, h1, hx⟩ := mkEv_eq n a
  refine ⟨qLoad agg gx, by simp only [mkOp, h1, ob], fun call t h k => ?_⟩
  rw [quiet_bind rfl]
  simp only [qLoad, quietRun, hx]
  cases a.ev (tmL n t) <;> try rfl
  rename_i a
  cases a with
  | none => rfl
  | some p => obtain ⟨b, o⟩ := p; simp only [onPtr, optK_eq, readVarF_eq]
 case fld off agg x =>
  obtain ⟨gx, h1, hx⟩ := mkEv_eq n x
  refine ⟨qFld off agg gx, by simp only [mkOp, h1, ob], fun call t h k => ?_⟩
  rw [quiet_bind rfl]
  simp only [qFld, quietRun, hx]
  cases x.ev (tmL n t) <;> try rfl
  simp only [onAgg, optK_eq, partOfF_eq]
 case ext i x =>
  obtain ⟨gx, h1, hx⟩ := mkEv_eq n x
  refine ⟨qExt i gx, by simp only [mkOp, h1, ob], fun call t h k => ?_⟩
  rw [quiet_bind rfl]
  simp only [qExt, quietRun, hx]
  cases x.ev (tmL n t) <;> try rfl
  simp only [onTuple, optK_eq, nthF_eq]
 case iaddrS esz x i =>
  obtain ⟨gx, h1, hx⟩ := mkEv_eq n x
  obtain ⟨gi, h2, hi⟩ := mkEv_eq n i
  refine ⟨qIaddrS esz gx gi, by simp only [mkOp, h1, h2, ob], fun call t h k => ?_⟩
  rw [quiet_bind rfl]
  simp only [qIaddrS, quietRun, hx, hi]
  cases x.ev (tmL n t) <;> try (cases i.ev (tmL n t) <;> rfl)
  rename_i a len cp
  cases a with
  | none => cases i.ev (tmL n t) <;> rfl
  | some p =>
    obtain ⟨b, o⟩ := p
    cases i.ev (tmL n t) <;> try rfl
    rename_i kd j
    cases j with
    | ofNat m =>
      simp only [onSlice, onInt, natK_eq, int_dec]
      by_cases hm : m < len
      · rw [if_pos hm, if_pos (by simp only [Int.ofNat_eq_natCast]; omega)]; rfl
      · rw [if_neg hm, if_neg (by simp only [Int.ofNat_eq_natCast]; omega)]; rfl
    | negSucc m => dsimp only; rw [if_neg (by omega)]; rfl
 case iaddrA len esz x i =>
  obtain ⟨gx, h1, hx⟩ := mkEv_eq n x
  obtain ⟨gi, h2, hi⟩ := mkEv_eq n i
  refine ⟨qIaddrA len esz gx gi, by simp only [mkOp, h1, h2, ob], fun call t h k => ?_⟩
  rw [quiet_bind rfl]
  simp only [qIaddrA, quietRun, hx, hi]
  cases x.ev (tmL n t) <;> try (cases i.ev (tmL n t) <;> rfl)
  rename_i a
  cases a with
  | none => cases i.ev (tmL n t) <;> rfl
  | some p =>
    obtain ⟨b, o⟩ := p
    cases i.ev (tmL n t) <;> try rfl
    rename_i kd j
    cases j with
    | ofNat m =>
      simp only [onPtr, onInt, natK_eq, int_dec]
      by_cases hm : m < len
      · rw [if_pos hm, if_pos (by simp only [Int.ofNat_eq_natCast]; omega)]; rfl
      · rw [if_neg hm, if_neg (by simp only [Int.ofNat_eq_natCast]; omega)]; rfl
    | negSucc m => dsimp only; rw [if_neg (by omega)]; rfl
 case idxS x i =>
  obtain ⟨gx, h1, hx⟩ := mkEv_eq n x
  obtain ⟨gi, h2, hi⟩ := mkEv_eq n i
  refine ⟨qIdxS gx gi, by simp only [mkOp, h1, h2, ob], fun call t h k => ?_⟩
  rw [quiet_bind rfl]
  simp only [qIdxS, quietRun, hx, hi]
  cases x.ev (tmL n t) <;> try (cases i.ev (tmL n t) <;> rfl)
  cases i.ev (tmL n t) <;> try rfl
  rename_i s kd j
  cases j with
  | ofNat m =>
    simp only [onStr, onInt, natK_eq, nthF_eq]
    rw [if_pos (by simp only [Int.ofNat_eq_natCast]; omega)]
    rw [show (Int.ofNat m).toNat = m from rfl]
    cases s[m]? <;> rfl
  | negSucc m => dsimp only; rw [if_neg (by omega)]; rfl
 case toInt kd x =>
  obtain ⟨gx, h1, hx⟩ := mkEv_eq n x
  refine ⟨qToInt kd gx, by simp only [mkOp, h1, ob], fun call t h k => ?_⟩
  rw [quiet_bind rfl]
  simp only [qToInt, quietRun, hx]
  cases x.ev (tmL n t) <;> try rfl
  simp only [onInt, intK_eq, wrapF_eq]
  rfl
 case lenV x =>
  obtain ⟨gx, h1, hx⟩ := mkEv_eq n x
  refine ⟨qLenV gx, by simp only [mkOp, h1, ob], fun call t h k => ?_⟩
  rw [quiet_bind rfl]
  simp only [qLenV, quietRun, hx]
  cases x.ev (tmL n t) <;> rfl
 case alloc zero =>
  refine ⟨_, rfl, fun call t h k => ?_⟩
  simp only [qAlloc, natK_eq, hpush_eq]
  rfl
 case store m a x =>
  obtain ⟨ga, h1, ha⟩ := mkEv_eq n a
  obtain ⟨gx, h2, hx⟩ := mkEv_eq n x
  have gen : ∀ m, Right n (.store m a x) (e2 (ρ := ρ) (eStore m) ga gx) := fun m call t h k => by
   simp only [e2, resK_eq, ha, hx]
   rfl
  by_cases hn : Nat.beq m 1 = true
  · have : m = 1 := Nat.eq_of_beq_eq_true hn
    subst this
    refine ⟨qStore1 (e2 (eStore 1) ga gx) ga gx, by simp only [mkOp, h1, h2, ob, Nat.beq], fun call t h k => ?_⟩
    unfold qStore1
    cases h1 : AV.one (gx t) with
    | false => exact gen 1 call t h k
    | true =>
      show onPtr (ga t) (fun b o => store1 h b o (gx t) fun h' => k AV.undef h') = _
      unfold runOp
      simp only [CO.quiet, Bool.false_eq_true, if_false, effRun]
      rw [hx] at h1
      have hc : (x.ev (tmL n t)).cells = [x.ev (tmL n t)] := by
       cases hx : x.ev (tmL n t) <;> rw [hx] at h1 <;> first | rfl | (simp [AV.one] at h1)
      rw [hx, ha]
      cases a.ev (tmL n t) <;> try rfl
      rename_i p
      cases p with
      | none => rfl
      | some p =>
        obtain ⟨b, o⟩ := p
        simp only [onPtr]
        rw [store1_eq h b o _ h1, hc, if_pos (by simp)]
        cases writeCells h b o [x.ev (tmL n t)] <;> rfl
  · have hn' : Nat.beq m 1 = false := by
      cases hb : Nat.beq m 1 with
      | false => rfl
      | true => exact absurd hb hn
    exact ⟨e2 (eStore m) ga gx, by simp only [mkOp, h1, h2, ob, hn'], gen m⟩
 case call f as =>
  obtain ⟨gf, h1, hf⟩ := mkEv_eq n f
  obtain ⟨ga, h2, ha⟩ := mkEvs_eq n as
  refine ⟨qCall gf ga, by simp only [mkOp, h1, h2, ob], fun call t h k => ?_⟩
  unfold runOp
  simp only [CO.quiet, Bool.false_eq_true, if_false, effRun, qCall, hf, ha]
  cases f.ev (tmL n t) <;> try rfl
  rename_i fn a c
  cases fn <;> try rfl
  simp only [onFunc, resK_eq]
 case nilchk x =>
  obtain ⟨gx, h1, hx⟩ := mkEv_eq n x
  refine ⟨q1 vNil gx, by simp only [mkOp, h1, ob], fun call t h k => ?_⟩
  rw [quiet_bind rfl]
  simp only [q1, optK_eq, hx]
  rfl
 case un op x =>
  obtain ⟨gx, h1, hx⟩ := mkEv_eq n x
  refine ⟨q1 (aun op) gx, by simp only [mkOp, h1, ob], fun call t h k => ?_⟩
  rw [quiet_bind rfl]
  simp only [q1, optK_eq, hx]
  rfl
 case strId x =>
  obtain ⟨gx, h1, hx⟩ := mkEv_eq n x
  refine ⟨q1 vStr gx, by simp only [mkOp, h1, ob], fun call t h k => ?_⟩
  rw [quiet_bind rfl]
  simp only [q1, optK_eq, hx]
  rfl
 case lenS x =>
  obtain ⟨gx, h1, hx⟩ := mkEv_eq n x
  refine ⟨q1 vLenS gx, by simp only [mkOp, h1, ob], fun call t h k => ?_⟩
  rw [quiet_bind rfl]
  simp only [q1, optK_eq, hx]
  rfl
 case cap x =>
  obtain ⟨gx, h1, hx⟩ := mkEv_eq n x
  refine ⟨q1 vCap gx, by simp only [mkOp, h1, ob], fun call t h k => ?_⟩
  rw [quiet_bind rfl]
  simp only [q1, optK_eq, hx]
  rfl
 case sdata x =>
  obtain ⟨gx, h1, hx⟩ := mkEv_eq n x
  refine ⟨q1 vSdata gx, by simp only [mkOp, h1, ob], fun call t h k => ?_⟩
  rw [quiet_bind rfl]
  simp only [q1, optK_eq, hx]
  rfl
 case b2s x =>
  obtain ⟨gx, h1, hx⟩ := mkEv_eq n x
  refine ⟨q1h vB2s gx, by simp only [mkOp, h1, ob], fun call t h k => ?_⟩
  rw [quiet_bind rfl]
  simp only [q1h, optK_eq, hx]
  rfl
 case lenM x =>
  obtain ⟨gx, h1, hx⟩ := mkEv_eq n x
  refine ⟨q1h vLenM gx, by simp only [mkOp, h1, ob], fun call t h k => ?_⟩
  rw [quiet_bind rfl]
  simp only [q1h, optK_eq, hx]
  rfl
 case toUns x =>
  obtain ⟨gx, h1, hx⟩ := mkEv_eq n x
  refine ⟨q1h vToUns gx, by simp only [mkOp, h1, ob], fun call t h k => ?_⟩
  rw [quiet_bind rfl]
  simp only [q1h, optK_eq, hx]
  rfl
 case fromUns ty m x =>
  obtain ⟨gx, h1, hx⟩ := mkEv_eq n x
  refine ⟨q1h (vFromUns ty m) gx, by simp only [mkOp, h1, ob], fun call t h k => ?_⟩
  rw [quiet_bind rfl]
  simp only [q1h, optK_eq, hx]
  rfl
 case minI x y =>
  obtain ⟨gx, h1, hx⟩ := mkEv_eq n x
  obtain ⟨gy, h2, hy⟩ := mkEv_eq n y
  refine ⟨qBin vMin gx gy, by simp only [mkOp, h1, h2, ob], fun call t h k => ?_⟩
  rw [quiet_bind rfl]
  simp only [qBin, optK_eq, hx, hy]
  rfl
 case maxI x y =>
  obtain ⟨gx, h1, hx⟩ := mkEv_eq n x
  obtain ⟨gy, h2, hy⟩ := mkEv_eq n y
  refine ⟨qBin vMax gx gy, by simp only [mkOp, h1, h2, ob], fun call t h k => ?_⟩
  rw [quiet_bind rfl]
  simp only [qBin, optK_eq, hx, hy]
  rfl
 case lookup q z ok x y =>
  obtain ⟨gx, h1, hx⟩ := mkEv_eq n x
  obtain ⟨gy, h2, hy⟩ := mkEv_eq n y
  refine ⟨q2h (vLookup q z ok) gx gy, by simp only [mkOp, h1, h2, ob], fun call t h k => ?_⟩
  rw [quiet_bind rfl]
  simp only [q2h, optK_eq, hx, hy]
  rfl
 case iface ty x =>
  obtain ⟨gx, h1, hx⟩ := mkEv_eq n x
  refine ⟨qIface ty gx, by simp only [mkOp, h1, ob], fun call t h k => ?_⟩
  rw [quiet_bind rfl]
  simp only [qIface, hx]
  rfl
 case slcS x lo hi =>
  obtain ⟨gx, h1, hx⟩ := mkEv_eq n x
  obtain ⟨gl, h2, hl⟩ := mkO_eq n lo
  obtain ⟨gh, h3, hh⟩ := mkO_eq n hi
  refine ⟨qSlcS gx gl gh, by simp only [mkOp, h1, h2, h3, ob], fun call t h k => ?_⟩
  rw [quiet_bind rfl]
  simp only [qSlcS, optK_eq, hx]
  have e : vSlcS [] (gl t) (gh t) (x.ev (tmL n t)) = vSlcS (tmL n t) lo hi (x.ev (tmL n t)) := by
   unfold vSlcS
   split
   · rw [bounds_eq (fun y d => (hl t).2.1 y [] d) (fun m => (hh t).2.2 [] m _ none none rfl) (fun _ _ => rfl)]
   · rfl
  rw [e]
  rfl
 case slcV e x lo hi mx =>
  obtain ⟨gx, h1, hx⟩ := mkEv_eq n x
  obtain ⟨gl, h2, hl⟩ := mkO_eq n lo
  obtain ⟨gh, h3, hh⟩ := mkO_eq n hi
  obtain ⟨gm, h4, hm⟩ := mkO_eq n mx
  refine ⟨qSlcV e gx gl gh gm, by simp only [mkOp, h1, h2, h3, h4, ob], fun call t h k => ?_⟩
  rw [quiet_bind rfl]
  simp only [qSlcV, optK_eq, hx]
  have hb : ∀ len cap, bounds3 [] len cap (gl t) (gh t) (gm t) = bounds3 (tmL n t) len cap lo hi mx := fun len cap =>
   bounds_eq (fun y d => (hl t).2.1 y [] d) (fun m => (hh t).2.2 [] m _ _ _ (hm t).1) (fun y d => (hm t).2.1 y [] d)
  have ee : vSlcV e [] (gl t) (gh t) (gm t) (x.ev (tmL n t)) = vSlcV e (tmL n t) lo hi mx (x.ev (tmL n t)) := by
   have hms := (hm t).1
   cases hx' : x.ev (tmL n t) <;> try rfl
   rename_i a len cp
   cases cp with
   | exact c => simp only [vSlcV, hb]
   | opn e' =>
     cases a with
     | none => rfl
     | some p =>
       obtain ⟨b, o⟩ := p
       cases hg : gm t with
       | none =>
         cases mx with
         | none =>
           have := hb len len
           rw [hg] at this
           simp only [vSlcV, this]
         | some y => rw [hg] at hms; simp at hms
       | some y =>
         cases mx with
         | none => rw [hg] at hms; simp at hms
         | some z =>
           have := hb len len
           rw [hg] at this
           simp only [vSlcV, this]
  rw [ee]
  cases mx <;> rfl
 case build z ps =>
  obtain ⟨gp, h1, hp⟩ := mkPs_eq n ps
  refine ⟨qBuild z gp, by simp only [mkOp, h1, ob], fun call t h k => ?_⟩
  rw [quiet_bind rfl]
  simp only [qBuild, optK_eq, hp]
  rfl
 case litS e len z ps =>
  obtain ⟨gp, h1, hp⟩ := mkPs_eq n ps
  refine ⟨qLitS len z gp, by simp only [mkOp, h1, ob], fun call t h k => ?_⟩
  simp only [qLitS, resK_eq, eLitS, hp]
  rfl
 case box x =>
  obtain ⟨gx, h1, hx⟩ := mkEv_eq n x
  refine ⟨e1 eBox gx, by simp only [mkOp, h1, ob], fun call t h k => ?_⟩
  simp only [e1, resK_eq, hx]
  rfl
 case s2b x =>
  obtain ⟨gx, h1, hx⟩ := mkEv_eq n x
  refine ⟨e1 eS2b gx, by simp only [mkOp, h1, ob], fun call t h k => ?_⟩
  simp only [e1, resK_eq, hx]
  rfl
 case iterS x =>
  obtain ⟨gx, h1, hx⟩ := mkEv_eq n x
  refine ⟨e1 eIterS gx, by simp only [mkOp, h1, ob], fun call t h k => ?_⟩
  simp only [e1, resK_eq, hx]
  rfl
 case nextS x =>
  obtain ⟨gx, h1, hx⟩ := mkEv_eq n x
  refine ⟨e1 eNextS gx, by simp only [mkOp, h1, ob], fun call t h k => ?_⟩
  simp only [e1, resK_eq, hx]
  rfl
 case mkS b e z x y =>
  obtain ⟨gx, h1, hx⟩ := mkEv_eq n x
  obtain ⟨gy, h2, hy⟩ := mkEv_eq n y
  refine ⟨e2 (eMkS b z) gx gy, by simp only [mkOp, h1, h2, ob], fun call t h k => ?_⟩
  simp only [e2, resK_eq, hx, hy]
  rfl
 case mkST ty b e z x y =>
  obtain ⟨gx, h1, hx⟩ := mkEv_eq n x
  obtain ⟨gy, h2, hy⟩ := mkEv_eq n y
  refine ⟨e2 (eMkST ty b z) gx gy, by simp only [mkOp, h1, h2, ob], fun call t h k => ?_⟩
  simp only [e2, resK_eq, hx, hy]
  rfl
 case append e b x y =>
  obtain ⟨gx, h1, hx⟩ := mkEv_eq n x
  obtain ⟨gy, h2, hy⟩ := mkEv_eq n y
  refine ⟨e2 (fun h s x => appendRun e b s x h) gx gy, by simp only [mkOp, h1, h2, ob], fun call t h k => ?_⟩
  simp only [e2, resK_eq, hx, hy]
  rfl
 case appendT ty e b x y =>
  obtain ⟨gx, h1, hx⟩ := mkEv_eq n x
  obtain ⟨gy, h2, hy⟩ := mkEv_eq n y
  refine ⟨e2 (eAppT ty e b) gx gy, by simp only [mkOp, h1, h2, ob], fun call t h k => ?_⟩
  simp only [e2, resK_eq, hx, hy]
  rfl
 case copy e x y =>
  obtain ⟨gx, h1, hx⟩ := mkEv_eq n x
  obtain ⟨gy, h2, hy⟩ := mkEv_eq n y
  refine ⟨e2 (eCopy e) gx gy, by simp only [mkOp, h1, h2, ob], fun call t h k => ?_⟩
  simp only [e2, resK_eq, hx, hy]
  rfl
 case ustr ty x y =>
  obtain ⟨gx, h1, hx⟩ := mkEv_eq n x
  obtain ⟨gy, h2, hy⟩ := mkEv_eq n y
  refine ⟨e2 (eUstr ty) gx gy, by simp only [mkOp, h1, h2, ob], fun call t h k => ?_⟩
  simp only [e2, resK_eq, hx, hy]
  rfl
 case mapset q x y z =>
  obtain ⟨gx, h1, hx⟩ := mkEv_eq n x
  obtain ⟨gy, h2, hy⟩ := mkEv_eq n y
  obtain ⟨gz, h3, hz⟩ := mkEv_eq n z
  refine ⟨e3 (eMapset q) gx gy gz, by simp only [mkOp, h1, h2, h3, ob], fun call t h k => ?_⟩
  simp only [e3, resK_eq, hx, hy, hz]
  rfl
 all_goals exact ⟨_, rfl, slow_right _ _⟩
abbrev QReg (ρ : Type) := Rec → TT → AH → (TT → AH → Option ρ) → Option ρ
noncomputable def guardQ (want : Bool) (g : TT → AV) (t : TT) (y no : Option ρ) : Option ρ :=
 match g t with
 | .bool b => Bool.rec (Bool.rec y no want) (Bool.rec no y want) b
 | _ => no
theorem guard_one (v : AV) (want : Bool) (y no : Option ρ) : (match v with
    | .bool b => Bool.rec (Bool.rec y no want) (Bool.rec no y want) b
    | _ => no) = if (match v with
    | .bool b => b == want
    | _ => false) = true then y else no := by
 cases v <;> try rfl
 rename_i b
 cases b <;> cases want <;> rfl
noncomputable def qOne (f : QOp ρ) (p : AV → TT → (TT → Option ρ) → Option ρ) (next : QReg ρ) : QReg ρ := fun call t h k => f call t h fun v h' => p v t fun t' => next call t' h' k
noncomputable def qIf (want : Bool) (g : TT → AV) (f : QOp ρ) (p : AV → TT → (TT → Option ρ) → Option ρ) (next : QReg ρ) : QReg ρ := fun call t h k =>
 guardQ want g t (f call t h fun v h' => p v t fun t' => next call t' h' k) (p AV.undef t fun t' => next call t' h k)
noncomputable def qEnd : QReg ρ := fun _ t h k => k t h
noncomputable def mkOps (n : Nat) (ops : List CR) : Option (QReg ρ) :=
 List.rec (some qEnd) (fun o _ ih => CR.rec (fun dst op g => ob (mkOp n op) fun f => ob (mkPut n dst) fun p => ob ih fun next =>
  Option.rec (some (qOne f p next)) (fun jw => Prod.rec (fun j want => ob (mkEv n (.t j)) fun g => some (qIf want g f p next)) jw) g) o) ops
def Both (n : Nat) (r : Option (List AV × AH)) (q : (TT → AH → Option ρ) → Option ρ) : Prop :=
 (r = none ∧ ∀ k, q k = none) ∨ ∃ t' h', r = some (tmL n t', h') ∧ ∀ k, q k = k t' h'
theorem mkOps_both (n : Nat) : ∀ (ops : List CR), ∃ q, mkOps (ρ := ρ) n ops = some q ∧ ∀ call t h, Both (ρ := ρ) n (runOps call ops (tmL n t) h) (q call t h)
 | [] => ⟨qEnd, rfl, fun call t h => .inr ⟨t, h, rfl, fun _ => rfl⟩⟩
 | o :: ops => by
   obtain ⟨q, hq, hb⟩ := mkOps_both n ops
   obtain ⟨dst, op, g⟩ := o
   obtain ⟨f, hf, hr⟩ := mkOp_right (ρ := ρ) n op
   obtain ⟨p, hp, hpe⟩ := mkPut_eq (ρ := ρ) n dst
   have e : mkOps (ρ := ρ) n (⟨dst, op, g⟩ :: ops) = ob (mkOp n op) fun f => ob (mkPut n dst) fun p => ob (mkOps n ops) fun next =>
       @Option.rec (Nat × Bool) (fun _ => Option (QReg ρ)) (some (qOne f p next)) (fun jw => Prod.rec (fun j want => ob (mkEv n (.t j)) fun g => some (qIf want g f p next)) jw) g := rfl
   rw [e, hf, hp, hq]
   have yes : ∀ call t h, Both (ρ := ρ) n ((runOp call op (tmL n t) h).bind fun (v, h') => runOps call ops (put (tmL n t) dst v) h') (fun k => f call t h fun v h' => p v t fun t' => q call t' h' k) := fun call t h => by
    unfold Both
    have hr' := hr call t h
    cases hrun : runOp call op (tmL n t) h with
    | none => exact .inl ⟨rfl, fun k => by dsimp only; rw [hr', hrun]; rfl⟩
    | some r =>
      obtain ⟨v, h1⟩ := r
      rcases hb call (putT n dst v t) h1 with ⟨g1, g2⟩ | ⟨t', h', g1, g2⟩
      · refine .inl ⟨by rw [tmL_put] at g1; exact g1, fun k => ?_⟩
        dsimp only; rw [hr', hrun]; simp only [Option.bind_some, hpe]; exact g2 k
      · refine .inr ⟨t', h', by rw [tmL_put] at g1; exact g1, fun k => ?_⟩
        dsimp only; rw [hr', hrun]; simp only [Option.bind_some, hpe]; exact g2 k
   have no : ∀ call t h, Both (ρ := ρ) n (runOps call ops (put (tmL n t) dst AV.undef) h) (fun k => p AV.undef t fun t' => q call t' h k) := fun call t h => by
    simp only [hpe]
    rw [← tmL_put]
    exact hb call _ h
   cases g with
   | none => exact ⟨qOne f p q, rfl, fun call t h => yes call t h⟩
   | some jw =>
     obtain ⟨j, want⟩ := jw
     obtain ⟨gj, h1, h2⟩ := mkEv_eq n (.t j)
     refine ⟨qIf want gj f p q, by show ob (mkEv n (.t j)) _ = _; rw [h1]; rfl, fun call t h => ?_⟩
     have e2 : ∀ k, qIf want gj f p q call t h k = if (CR.wanted ⟨dst, op, some (j, want)⟩ (tmL n t)) = true then (f call t h fun v h' => p v t fun t' => q call t' h' k) else (p AV.undef t fun t' => q call t' h k) := fun k => by
      unfold qIf guardQ
      rw [h2]
      exact guard_one _ want _ _
     unfold Both
     simp only [e2, runOps]
     by_cases hw : CR.wanted ⟨dst, op, some (j, want)⟩ (tmL n t) = true
     · simp only [hw, if_true]
       exact yes call t h
     · have hw' : CR.wanted ⟨dst, op, some (j, want)⟩ (tmL n t) = false := by simpa using hw
       simp only [hw', Bool.false_eq_true, if_false]
       exact no call t h
noncomputable def ofLK (l : List AV) : Nat → TT → (TT → ρ) → ρ := List.rec (fun _ t k => k t) (fun v _ ih i t k => forceK v fun v' => setK (toPa i) v' t fun t' => natK (Nat.succ i) fun j => ih j t' k) l
theorem ofLK_eq : ∀ (l : List AV) (i : Nat) (t : TT), ∃ t', (∀ k : TT → ρ, ofLK l i t k = k t') ∧ ∀ j, getT j t' = if i ≤ j ∧ j < i + l.length then l.getD (j - i) AV.undef else getT j t
 | [], i, t => ⟨t, fun _ => rfl, fun j => by rw [if_neg (by simp only [List.length_nil]; omega)]⟩
 | v :: l, i, t => by
   obtain ⟨t', h1, h2⟩ := ofLK_eq l (i + 1) (Tr.setF (i + 1) t i v)
   refine ⟨t', fun k => ?_, fun j => ?_⟩
   · show forceK v (fun v' => setK (toPa i) v' t fun t' => natK (Nat.succ i) fun j => ofLK l j t' k) = _
     rw [forceK_eq]
     unfold toPa
     rw [setK_eq v (i + 1) i (by omega) t (i + 1) (by omega), natK_eq]
     exact h1 k
   · rw [h2 j, getT_eq j (Tr.setF (i + 1) t i v), Tr.get_setF v (i + 1) t i j (by omega), getT_eq j t]
     by_cases he : j = i
     · subst he
       rw [if_neg (by omega), if_pos rfl, if_pos (by simp)]
       simp
     · by_cases hlt : i + 1 ≤ j ∧ j < i + 1 + l.length
       · rw [if_pos hlt, if_pos (by simp; omega)]
         rw [show j - i = (j - (i + 1)) + 1 by omega]
         simp
       · rw [if_neg hlt, if_neg he, if_neg (by simp; omega)]
theorem getT_leaf (j : Nat) : getT j .leaf = AV.undef := by rw [getT_eq]; unfold Tr.get; rfl
theorem ofLK_list {n : Nat} (l : List AV) (hl : l.length = n) : ∃ t', (∀ k : TT → ρ, ofLK l 0 .leaf k = k t') ∧ tmL n t' = l := by
 obtain ⟨t', h1, h2⟩ := ofLK_eq (ρ := ρ) l 0 .leaf
 refine ⟨t', h1, ?_⟩
 apply List.ext_getElem?
 intro j
 rw [tmL_get, h2 j]
 by_cases hj : j < n
 · rw [if_pos hj, if_pos (by omega)]
   rw [List.getD_eq_getElem?_getD, Nat.sub_zero, List.getElem?_eq_getElem (by omega)]
   rfl
 · rw [if_neg hj, List.getElem?_eq_none (by omega)]
theorem ofLK_args {n : Nat} (l : List AV) (hl : l.length ≤ n) : ∃ t', (∀ k : TT → ρ, ofLK l 0 .leaf k = k t') ∧ tmL n t' = l ++ List.replicate (n - l.length) AV.undef := by
 obtain ⟨t', h1, h2⟩ := ofLK_eq (ρ := ρ) l 0 .leaf
 refine ⟨t', h1, ?_⟩
 apply List.ext_getElem?
 intro j
 rw [tmL_get, h2 j, getT_leaf, List.getElem?_append]
 by_cases hj : j < n
 · rw [if_pos hj]
   by_cases hjl : j < l.length
   · rw [if_pos (by omega), if_pos hjl, List.getD_eq_getElem?_getD, Nat.sub_zero, List.getElem?_eq_getElem hjl]
     rfl
   · rw [if_neg (by omega), if_neg hjl, List.getElem?_replicate, if_pos (by omega)]
 · rw [if_neg hj, if_neg (by omega), List.getElem?_replicate, if_neg (by omega)]
noncomputable def runDF (n : Nat) (call : Rec) (ops : List CD) (t : TT) (h : AH) (k : TT → AH → Option ρ) : Option ρ :=
 Option.rec none (fun p => Prod.rec (fun tm' h' => ofLK tm' 0 .leaf fun t' => heapK h' fun h2 => k t' h2) p) (runD call ops (tmL n t) h)
theorem runT_length (call : Rec) : ∀ (ops : List CD) (tm : List AV) (h : AH) {rs : List (List AV × AV × Bool)} {hs : List AH} {tm' : List AV}, runT call ops tm h = some (rs, hs, tm') → tm'.length = tm.length
 | [], tm, h, rs, hs, tm', hr => by simp only [runT, Option.some.injEq, Prod.mk.injEq] at hr; rw [hr.2.2]
 | o :: ops, tm, h, rs, hs, tm', hr => by
   have lp : ∀ d v, (put tm d v).length = tm.length := fun d v => by cases d <;> simp [put]
   simp only [runT] at hr
   split at hr
   · split at hr
     · simp only [Option.bind_eq_some_iff, Option.map_eq_some_iff] at hr
       obtain ⟨v, _, ⟨rs1, hs1, tm1⟩, h1, he⟩ := hr
       cases he
       rw [← lp o.dst v]; exact runT_length call ops _ _ h1
     · simp only [Option.bind_eq_some_iff, Option.map_eq_some_iff] at hr
       obtain ⟨⟨v, h'⟩, _, ⟨rs1, hs1, tm1⟩, h1, he⟩ := hr
       cases he
       rw [← lp o.dst v]; exact runT_length call ops _ _ h1
   · simp only [Option.map_eq_some_iff] at hr
     obtain ⟨⟨rs1, hs1, tm1⟩, h1, he⟩ := hr
     cases he
     rw [← lp o.dst AV.undef]; exact runT_length call ops _ _ h1
theorem runDF_both (n : Nat) (call : Rec) (ops : List CD) (t : TT) (h : AH) : Both (ρ := ρ) n (runD call ops (tmL n t) h) (runDF n call ops t h) := by
 unfold Both runDF
 cases hr : runD call ops (tmL n t) h with
 | none => exact .inl ⟨rfl, fun _ => rfl⟩
 | some p =>
   obtain ⟨tm', h'⟩ := p
   have hl : tm'.length = n := by
    unfold runD at hr
    split at hr
    · rename_i rs hs tm2 h1
      split at hr
      · cases hr
        have := runT_length call ops _ _ h1
        rw [tmL_length] at this
        exact this
      · cases hr
    · cases hr
   obtain ⟨t', g1, g2⟩ := ofLK_list (ρ := Option ρ) tm' hl
   refine .inr ⟨t', h', by rw [g2], fun k => ?_⟩
   show ofLK tm' 0 .leaf (fun t' => heapK h' fun h2 => k t' h2) = _
   rw [g1, heapK_eq]
noncomputable def tight (ops : List CD) : Nat → Bool :=
 List.rec (fun _ => true) (fun o _ ih c => and (not o.still) (Bool.rec (ih (Nat.succ c)) (and (or (not o.op.reads) (and (Nat.beq o.lo c) (Nat.beq o.hi c))) (ih c)) o.op.quiet)) ops
theorem tight_cons (o : CD) (ops : List CD) (c : Nat) : tight (o :: ops) c = (!o.still && (if o.op.quiet then (!o.op.reads || (Nat.beq o.lo c && Nat.beq o.hi c)) && tight ops c else tight ops (c + 1))) := by
 show and (not o.still) (@Bool.rec (fun _ => Bool) (tight ops (Nat.succ c)) (and (or (not o.op.reads) (and (Nat.beq o.lo c) (Nat.beq o.hi c))) (tight ops c)) o.op.quiet) = _
 cases o.op.quiet <;> rfl
theorem tight_run (call : Rec) : ∀ (ops : List CD) (pre : List AH) (tm : List AV) (h : AH), tight ops pre.length = true →
    (runOps call (ops.map CD.toCR) tm h = none ∧ runT call ops tm h = none) ∨
    ∃ rs hs tm' h', runT call ops tm h = some (rs, hs, tm') ∧ runOps call (ops.map CD.toCR) tm h = some (tm', h') ∧ hs.getLast? = some h' ∧ hs.head? = some h ∧ steady call (pre ++ hs) ops rs = true
 | [], pre, tm, h, _ => .inr ⟨[], [h], tm, h, rfl, rfl, rfl, rfl, rfl⟩
 | o :: ops, pre, tm, h, ht => by
   rw [tight_cons] at ht
   simp only [Bool.and_eq_true, Bool.not_eq_true'] at ht
   obtain ⟨hst, ht⟩ := ht
   have hcalm : o.calm = o.op.quiet := by unfold CD.calm; rw [hst]; simp
   simp only [List.map_cons, runOps, runT, hcalm]
   by_cases hq : o.op.quiet = true
   · rw [if_pos hq] at ht
     simp only [Bool.and_eq_true] at ht
     obtain ⟨hw, ht⟩ := ht
     have hcr : calmRun call o tm h = quietRun o.op tm h := by unfold calmRun; rw [if_pos hq]
     by_cases hwt : o.wanted tm = true
     · simp only [hwt, if_true, hq, hcr, runOp]
       cases hv : quietRun o.op tm h with
       | none => exact .inl ⟨rfl, rfl⟩
       | some v =>
         simp only [Option.map_some, Option.bind_some]
         rcases tight_run call ops pre (put tm o.dst v) h ht with ⟨h1, h2⟩ | ⟨rs, hs, tm', h', h1, h2, h3, h4, h5⟩
         · exact .inl ⟨h1, by rw [h2]; rfl⟩
         · refine .inr ⟨_, hs, tm', h', by rw [h1]; rfl, h2, h3, h4, ?_⟩
           simp only [steady, Bool.and_eq_true]
           refine ⟨?_, h5⟩
           by_cases hr : o.op.reads = true
           · simp only [hr, Bool.not_true, Bool.false_or, Bool.and_eq_true] at hw
             have e1 := Nat.eq_of_beq_eq_true hw.1
             have e2 := Nat.eq_of_beq_eq_true hw.2
             cases hs with
             | nil => simp at h4
             | cons h0 hs0 =>
               simp only [List.head?_cons, Option.some.injEq] at h4
               subst h4
               rw [e1, e2, List.drop_left, show pre.length + 1 - pre.length = 1 by omega]
               simp only [List.take_succ_cons, List.take_zero, List.all_cons, List.all_nil, Bool.and_true]
               unfold agrees
               rw [hcr, hv]
               simp [AV.same_refl]
           · have hr' : o.op.reads = false := by simpa using hr
             simp [CD.looksIn, hr', hst]
     · have hwt' : o.wanted tm = false := by simpa using hwt
       simp only [hwt', Bool.false_eq_true, if_false, hq, if_true]
       rcases tight_run call ops pre (put tm o.dst AV.undef) h ht with ⟨h1, h2⟩ | ⟨rs, hs, tm', h', h1, h2, h3, h4, h5⟩
       · exact .inl ⟨h1, by rw [h2]; rfl⟩
       · exact .inr ⟨_, hs, tm', h', by rw [h1]; rfl, h2, h3, h4, by simp [steady, h5]⟩
   · have hq' : o.op.quiet = false := by simpa using hq
     rw [if_neg hq] at ht
     have grow : ∀ (tm1 : List AV) (h1 : AH) (x : List AV × AV × Bool) (b : Bool), x.2.2 = b →
         (runOps call (ops.map CD.toCR) tm1 h1 = none ∧ (runT call ops tm1 h1).map (fun (rs, hs, tm') => (x :: rs, h :: hs, tm')) = none) ∨
         ∃ rs hs tm' h', (runT call ops tm1 h1).map (fun (rs, hs, tm') => (x :: rs, h :: hs, tm')) = some (rs, hs, tm') ∧ runOps call (ops.map CD.toCR) tm1 h1 = some (tm', h') ∧ hs.getLast? = some h' ∧ hs.head? = some h ∧ steady call (pre ++ hs) (o :: ops) rs = true := fun tm1 h1 x b hx => by
      rcases tight_run call ops (pre ++ [h]) tm1 h1 (by simpa using ht) with ⟨g1, g2⟩ | ⟨rs, hs, tm', h', g1, g2, g3, g4, g5⟩
      · exact .inl ⟨g1, by rw [g2]; rfl⟩
      · refine .inr ⟨x :: rs, h :: hs, tm', h', by rw [g1]; rfl, g2, ?_, rfl, ?_⟩
        · cases hs with
          | nil => simp at g4
          | cons a l => rw [List.getLast?_cons_cons]; exact g3
        · obtain ⟨x1, x2, x3⟩ := x
          simp only [steady, hcalm, hq', Bool.and_false, Bool.false_and, Bool.not_false, Bool.true_or, Bool.true_and]
          rw [List.append_assoc] at g5
          exact g5
     by_cases hwt : o.wanted tm = true
     · simp only [hwt, if_true, hq', Bool.false_eq_true, if_false, runOp]
       cases hv : effRun call o.op tm h with
       | none => exact .inl ⟨rfl, rfl⟩
       | some p => exact grow (put tm o.dst p.1) p.2 _ true rfl
     · have hwt' : o.wanted tm = false := by simpa using hwt
       simp only [hwt', Bool.false_eq_true, if_false, hq']
       exact grow (put tm o.dst AV.undef) h _ false rfl
theorem tight_eq (call : Rec) (ops : List CD) (ht : tight ops 0 = true) (tm : List AV) (h : AH) : runD call ops tm h = runOps call (ops.map CD.toCR) tm h := by
 unfold runD
 rcases tight_run call ops [] tm h ht with ⟨h1, h2⟩ | ⟨rs, hs, tm', h', h1, h2, h3, _, h5⟩
 · rw [h1, h2]
 · rw [h1, h2]
   simp only [List.nil_append] at h5
   simp only [h5, if_true]
   rw [List.getLastD_eq_getLast?, h3]
   rfl
noncomputable def mkD (n : Nat) (ops : List CD) : Option (QReg ρ) :=
 Bool.rec (some (runDF n · ops)) (mkOps n (ops.map CD.toCR)) (tight ops 0)
theorem mkD_both (n : Nat) (ops : List CD) : ∃ q, mkD (ρ := ρ) n ops = some q ∧ ∀ call t h, Both (ρ := ρ) n (runD call ops (tmL n t) h) (q call t h) := by
 unfold mkD
 cases ht : tight ops 0 with
 | false => exact ⟨_, rfl, fun call t h => runDF_both n call ops t h⟩
 | true =>
   obtain ⟨q, h1, h2⟩ := mkOps_both (ρ := ρ) n (ops.map CD.toCR)
   exact ⟨q, h1, fun call t h => by rw [tight_eq call ops ht]; exact h2 call t h⟩
abbrev QC (ρ : Type) := Nat → Rec → TT → AH → (AEx → TT → AH → Option ρ) → Option ρ
noncomputable def cReg (q : QReg ρ) : QC ρ := fun _ call t h k => q call t h fun t' h' => k .normal t' h'
noncomputable def cSeq (a b : QC ρ) : QC ρ := fun fuel call t h k => a fuel call t h fun x t' h' => AEx.rec (b fuel call t' h' k) (fun id => k (.exit id) t' h') (k .ret t' h') x
noncomputable def cCond (c : TT → AV) (x y : QC ρ) : QC ρ := fun fuel call t h k => onBool (c t) fun b => Bool.rec (y fuel call t h k) (x fuel call t h k) b
noncomputable def cBlock (id : Nat) (a : QC ρ) : QC ρ := fun fuel call t h k => a fuel call t h fun x t' h' => AEx.rec (k .normal t' h') (fun id' => Bool.rec (k (.exit id') t' h') (k .normal t' h') (Nat.beq id' id)) (k .ret t' h') x
noncomputable def iterF (ih : TT → AH → (AEx → TT → AH → Option ρ) → Option ρ) (fuel : Nat) : TT → AH → (AEx → TT → AH → Option ρ) → Option ρ :=
 Nat.rec (fun _ _ _ => none) (fun _ it t h k => ih t h fun x t' h' => AEx.rec (it t' h' k) (fun id => k (.exit id) t' h') (k .ret t' h') x) fuel
noncomputable def cLoop (a : QC ρ) : QC ρ := fun fuel call => iterF (a fuel call) fuel
noncomputable def mkC (n : Nat) (c : CC) : Option (QC ρ) :=
 CC.rec (some fun _ _ t h k => k .normal t h) (fun ops => ob (mkOps n ops) fun q => some (cReg q)) (fun ops => ob (mkD n ops) fun q => some (cReg q))
  (fun _ _ iha ihb => ob iha fun a => ob ihb fun b => some (cSeq a b))
  (fun c _ _ ihx ihy => ob (mkEv n c) fun g => ob ihx fun x => ob ihy fun y => some (cCond g x y))
  (fun id _ ih => ob ih fun a => some (cBlock id a))
  (fun _ ih => ob ih fun a => some (cLoop a))
  (fun id => some fun _ _ t h k => k (.exit id) t h) (some fun _ _ t h k => k .ret t h) (some fun _ _ _ _ _ => none) c
def BothC (n : Nat) (r : Option St) (q : (AEx → TT → AH → Option ρ) → Option ρ) : Prop :=
 (r = none ∧ ∀ k, q k = none) ∨ ∃ x t' h', r = some (x, tmL n t', h') ∧ ∀ k, q k = k x t' h'
theorem BothC.of {n : Nat} {r : Option (List AV × AH)} {q : (TT → AH → Option ρ) → Option ρ} (hb : Both n r q) : BothC n (r.map fun (tm', h') => (AEx.normal, tm', h')) fun k => q fun t' h' => k .normal t' h' := by
 rcases hb with ⟨h1, h2⟩ | ⟨t', h', h1, h2⟩
 · exact .inl ⟨by rw [h1]; rfl, fun k => h2 _⟩
 · exact .inr ⟨.normal, t', h', by rw [h1]; rfl, fun k => h2 _⟩
theorem iterF_both {n : Nat} {body : List AV → AH → Option St} {ih : TT → AH → (AEx → TT → AH → Option ρ) → Option ρ} (hb : ∀ t h, BothC (ρ := ρ) n (body (tmL n t) h) (ih t h)) :
    ∀ (fuel : Nat) (t : TT) (h : AH), BothC (ρ := ρ) n (iter body fuel (tmL n t) h) (iterF ih fuel t h)
 | 0, t, h => .inl ⟨rfl, fun _ => rfl⟩
 | m + 1, t, h => by
   have e : ∀ k, iterF ih (m + 1) t h k = ih t h fun x t' h' => AEx.rec (iterF ih m t' h' k) (fun id => k (.exit id) t' h') (k .ret t' h') x := fun k => rfl
   unfold BothC
   simp only [e, iter]
   rcases hb t h with ⟨h1, h2⟩ | ⟨x, t', h', h1, h2⟩
   · exact .inl ⟨by rw [h1], fun k => h2 _⟩
   · cases x with
     | normal =>
       simp only [h1, h2]
       exact iterF_both hb m t' h'
     | exit id => exact .inr ⟨.exit id, t', h', by rw [h1], fun k => by rw [h2]⟩
     | ret => exact .inr ⟨.ret, t', h', by rw [h1], fun k => by rw [h2]⟩
theorem mkC_both (n : Nat) : ∀ (c : CC), ∃ q, mkC (ρ := ρ) n c = some q ∧ ∀ fuel call t h, BothC (ρ := ρ) n (runC call fuel c (tmL n t) h) (q fuel call t h)
 | .skip => ⟨_, rfl, fun fuel call t h => .inr ⟨.normal, t, h, rfl, fun _ => rfl⟩⟩
 | .region ops => by
   obtain ⟨q, h1, h2⟩ := mkOps_both (ρ := ρ) n ops
   exact ⟨cReg q, by show ob (mkOps n ops) _ = _; rw [h1]; rfl, fun fuel call t h => BothC.of (h2 call t h)⟩
 | .regionD ops => by
   obtain ⟨q, h1, h2⟩ := mkD_both (ρ := ρ) n ops
   exact ⟨cReg q, by show ob (mkD n ops) _ = _; rw [h1]; rfl, fun fuel call t h => BothC.of (h2 call t h)⟩
 | .seq a b => by
   obtain ⟨qa, ha, ha2⟩ := mkC_both n a
   obtain ⟨qb, hb, hb2⟩ := mkC_both n b
   refine ⟨cSeq qa qb, by show ob (mkC n a) (fun a => ob (mkC n b) fun b => some (cSeq a b)) = _; rw [ha, hb]; rfl, fun fuel call t h => ?_⟩
   unfold BothC
   simp only [cSeq, runC]
   rcases ha2 fuel call t h with ⟨h1, h2⟩ | ⟨x, t', h', h1, h2⟩
   · exact .inl ⟨by rw [h1], fun k => h2 _⟩
   · cases x with
     | normal =>
       simp only [h1, h2]
       exact hb2 fuel call t' h'
     | exit id => exact .inr ⟨.exit id, t', h', by rw [h1], fun k => by rw [h2]⟩
     | ret => exact .inr ⟨.ret, t', h', by rw [h1], fun k => by rw [h2]⟩
 | .cond c x y => by
   obtain ⟨g, hg, hg2⟩ := mkEv_eq n c
   obtain ⟨qx, hx, hx2⟩ := mkC_both n x
   obtain ⟨qy, hy, hy2⟩ := mkC_both n y
   refine ⟨cCond g qx qy, by show ob (mkEv n c) (fun g => ob (mkC n x) fun x => ob (mkC n y) fun y => some (cCond g x y)) = _; rw [hg, hx, hy]; rfl, fun fuel call t h => ?_⟩
   unfold BothC
   simp only [cCond, runC, hg2]
   cases c.ev (tmL n t) <;> first | exact .inl ⟨rfl, fun _ => rfl⟩ | skip
   rename_i b
   cases b with
   | false => exact hy2 fuel call t h
   | true => exact hx2 fuel call t h
 | .block id c => by
   obtain ⟨q, hq, hq2⟩ := mkC_both n c
   refine ⟨cBlock id q, by show ob (mkC n c) _ = _; rw [hq]; rfl, fun fuel call t h => ?_⟩
   unfold BothC
   simp only [cBlock, runC]
   rcases hq2 fuel call t h with ⟨h1, h2⟩ | ⟨x, t', h', h1, h2⟩
   · exact .inl ⟨by rw [h1], fun k => h2 _⟩
   · cases x with
     | normal => exact .inr ⟨.normal, t', h', by rw [h1], fun k => by rw [h2]⟩
     | ret => exact .inr ⟨.ret, t', h', by rw [h1], fun k => by rw [h2]⟩
     | exit id' =>
       by_cases hid : id' = id
       · subst hid
         exact .inr ⟨.normal, t', h', by rw [h1]; simp, fun k => by rw [h2]; simp only [Nat.beq_refl]⟩
       · have hb : Nat.beq id' id = false := by
           cases hb : Nat.beq id' id with
           | false => rfl
           | true => exact absurd (Nat.eq_of_beq_eq_true hb) hid
         exact .inr ⟨.exit id', t', h', by rw [h1]; simp [hid], fun k => by rw [h2]; simp only [hb]⟩
 | .loop c => by
   obtain ⟨q, hq, hq2⟩ := mkC_both n c
   exact ⟨cLoop q, by show ob (mkC n c) _ = _; rw [hq]; rfl, fun fuel call t h => iterF_both (hq2 fuel call) fuel t h⟩
 | .exit id => ⟨_, rfl, fun fuel call t h => .inr ⟨.exit id, t, h, rfl, fun _ => rfl⟩⟩
 | .ret => ⟨_, rfl, fun fuel call t h => .inr ⟨.ret, t, h, rfl, fun _ => rfl⟩⟩
 | .stop => ⟨_, rfl, fun fuel call t h => .inl ⟨rfl, fun _ => rfl⟩⟩
end
noncomputable def resOneF (n : Nat) (t : TT) (h : AH) (r : CRes) : Option AV :=
 CRes.rec (fun i => some (evF n (.t i) t)) (fun i agg => onPtr (evF n (.t i) t) fun b o => readVarF h b o agg) r
theorem resOneF_eq (n : Nat) (t : TT) (h : AH) (r : CRes) : resOneF n t h r = resOne (tmL n t) h r := by
 cases r with
 | tmp i => show some (evF n (.t i) t) = _; rw [evF_eq]; rfl
 | cell i agg =>
   show onPtr (evF n (.t i) t) (fun b o => readVarF h b o agg) = _
   rw [evF_eq]
   simp only [resOne, CA.ev]
   cases (tmL n t).getD i AV.undef <;> try rfl
   rename_i a
   cases a with
   | none => rfl
   | some p => obtain ⟨b, o⟩ := p; simp only [onPtr, readVarF_eq]
noncomputable def resL (n : Nat) (t : TT) (h : AH) (rs : List CRes) : Option (List AV) :=
 List.rec (some []) (fun r _ ih => Option.rec none (fun v => Option.rec none (fun vs => some (v :: vs)) ih) (resOneF n t h r)) rs
theorem resL_eq (n : Nat) (t : TT) (h : AH) : ∀ rs : List CRes, resL n t h rs = rs.mapM (resOne (tmL n t) h)
 | [] => rfl
 | r :: rs => by
   show @Option.rec AV (fun _ => Option (List AV)) none (fun v => @Option.rec (List AV) (fun _ => Option (List AV)) none (fun vs => some (v :: vs)) (resL n t h rs)) (resOneF n t h r) = _
   rw [resL_eq n t h rs, resOneF_eq, List.mapM_cons]
   cases resOne (tmL n t) h r with
   | none => rfl
   | some v => cases rs.mapM (resOne (tmL n t) h) <;> rfl
noncomputable def resAllF (n : Nat) (t : TT) (h : AH) (rs : List CRes) : Option AV :=
 match rs with
 | [r] => resOneF n t h r
 | rs => (resL n t h rs).map .tuple
theorem resAllF_eq (n : Nat) (t : TT) (h : AH) (rs : List CRes) : resAllF n t h rs = resAll (tmL n t) h rs := by
 match rs with
 | [] => rfl
 | [r] => exact resOneF_eq n t h r
 | a :: b :: l =>
   show (resL n t h (a :: b :: l)).map AV.tuple = ((a :: b :: l).mapM (resOne (tmL n t) h)).map AV.tuple
   rw [resL_eq]
noncomputable def settleF (h h' : AH) (v : AV) : Option (AV × AH) :=
 Bool.rec (natK (Nat.rec h.low (fun _ _ => h'.low) (Nat.sub h.low h'.low)) fun m => some (v, h'.withLow m)) (some (v, h)) (and (Nat.ble h.n h'.low) (v.under h.n))
theorem settleF_eq (h h' : AH) (v : AV) : settleF h h' v = some (settle h h' v) := by
 unfold settleF settle
 have hm : (Nat.rec h.low (fun _ _ => h'.low) (Nat.sub h.low h'.low) : Nat) = min h.low h'.low := by
  have hs : Nat.sub h.low h'.low = h.low - h'.low := rfl
  cases hd : Nat.sub h.low h'.low with
  | zero => show h.low = _; omega
  | succ d => show h'.low = _; omega
 rw [natK_eq, hm]
 by_cases h1 : h.n ≤ h'.low
 · have e1 : Nat.ble h.n h'.low = true := Nat.ble_eq_true_of_le h1
   rw [e1]
   cases h2 : v.under h.n with
   | true => rw [if_pos ⟨h1, rfl⟩]; rfl
   | false => rw [if_neg (by simp)]; rfl
 · have e1 : Nat.ble h.n h'.low = false := by
     cases hb : Nat.ble h.n h'.low with
     | false => rfl
     | true => exact absurd (Nat.le_of_ble_eq_true hb) h1
   rw [e1, if_neg (by simp [h1])]
   rfl
noncomputable def mkF (f : CF) : Option (Nat → Rec → List AV → AH → Option (AV × AH)) :=
 ob (mkC (ρ := AV × AH) f.ntmps f.body) fun q => some fun fuel call args h =>
  Bool.rec (runF call fuel f args h) (ofLK args 0 .leaf fun t => q fuel call t (h.withLow h.n) fun x t' h' =>
   AEx.rec (Option.rec none (fun v => settleF h h' v) (resAllF f.ntmps t' h' f.res)) (fun _ => none) (Option.rec none (fun v => settleF h h' v) (resAllF f.ntmps t' h' f.res)) x) (Nat.ble args.length f.ntmps)
theorem mkF_eq (f : CF) : ∃ q, mkF f = some q ∧ ∀ fuel call args h, q fuel call args h = runF call fuel f args h := by
 obtain ⟨q, h1, h2⟩ := mkC_both (ρ := AV × AH) f.ntmps f.body
 refine ⟨fun fuel call args h => Bool.rec (runF call fuel f args h) (ofLK args 0 .leaf fun t => q fuel call t (h.withLow h.n) fun x t' h' =>
     AEx.rec (Option.rec none (fun v => settleF h h' v) (resAllF f.ntmps t' h' f.res)) (fun _ => none) (Option.rec none (fun v => settleF h h' v) (resAllF f.ntmps t' h' f.res)) x) (Nat.ble args.length f.ntmps), ?_, fun fuel call args h => ?_⟩
 · unfold mkF
   rw [h1]
   rfl
 · dsimp only
   cases hl : Nat.ble args.length f.ntmps with
   | false => rfl
   | true =>
     have hle := Nat.le_of_ble_eq_true hl
     show ofLK args 0 .leaf (fun t => q fuel call t (h.withLow h.n) fun x t' h' =>
      AEx.rec (Option.rec none (fun v => settleF h h' v) (resAllF f.ntmps t' h' f.res)) (fun _ => none) (Option.rec none (fun v => settleF h h' v) (resAllF f.ntmps t' h' f.res)) x) = _
     obtain ⟨t, g1, g2⟩ := ofLK_args (ρ := Option (AV × AH)) (n := f.ntmps) args hle
     rw [g1]
     unfold runF
     rw [← g2]
     have fin : ∀ (t' : TT) (h' : AH), (Option.rec none (fun v => settleF h h' v) (resAllF f.ntmps t' h' f.res) : Option (AV × AH)) = (resAll (tmL f.ntmps t') h' f.res).map (settle h h') := fun t' h' => by
      rw [resAllF_eq]
      cases resAll (tmL f.ntmps t') h' f.res with
      | none => rfl
      | some v => exact settleF_eq h h' v
     rcases h2 fuel call t (h.withLow h.n) with ⟨k1, k2⟩ | ⟨x, t', h', k1, k2⟩
     · rw [k1, k2]
     · rw [k1, k2]
       cases x with
       | normal => exact fin t' h'
       | exit id => rfl
       | ret => exact fin t' h'
noncomputable def tblQ (tbl : Nat → Option CF) (f : Nat) : Option (Nat → Rec → List AV → AH → Option (AV × AH)) := ob (tbl f) mkF
noncomputable def runQ (orc : Orc) (tbl : Nat → Option CF) (n : Nat) : Rec :=
 Nat.rec (fun _ _ _ => none) (fun n ih f args h => Option.rec (ob (tblQ tbl f) fun q => q n ih args h) (fun s => s args h) (orc f)) n
theorem runQ_eq (orc : Orc) (tbl : Nat → Option CF) : ∀ n, runQ orc tbl n = runO orc tbl n
 | 0 => by funext f args h; rfl
 | n + 1 => by
   funext f args h
   show (Option.rec (ob (tblQ tbl f) fun q => q n (runQ orc tbl n) args h) (fun s => s args h) (orc f) : Option (AV × AH)) = _
   rw [runQ_eq orc tbl n]
   simp only [runO, tblQ]
   cases orc f with
   | some s => rfl
   | none =>
     cases tbl f with
     | none => rfl
     | some cf =>
       obtain ⟨q, h1, h2⟩ := mkF_eq cf
       show ob (mkF cf) (fun q => q n (runO orc tbl n) args h) = _
       rw [h1]
       exact h2 _ _ _ _
end Go.Fs
end

section
/- Package-level variables that read as listed: what the abstract heap holds of them when the call begins. -/
namespace Go.Fs
open Go.RowKit
def absLaid (P : Program) (f : Nat) : List (String × DataW Unit) → AH → Option AH
 | [], h => some h
 | (n, d) :: r, h => match P.globalNamed n with
   | some g => match (P.globals[g]?).map (·.type) with
     | some t => match absD P (fun _ => false) f t d h with
       | some (cs, h') => if g < P.globals.size then absLaid P f r (h'.set g (.cells cs true)) else none
       | none => none
     | none => none
   | none => none
def embW (G : Nat) (w : World) : Emb := ⟨G, fun b => b, fun _ => 0, fun b => ((w.shape? b).map (·.2)).getD 0, fun b => ((w.shape? b).map (·.1)).getD 0⟩
theorem start_relW (G : Nat) (w : World) : Rel G (embW G w) (start G) w :=
 ⟨rfl, fun b c h => (by rw [start_get] at h; cases h), Nat.le_refl _, fun _ _ => ⟨rfl, rfl⟩, fun b c h => (by rw [start_get] at h; cases h), fun b b' c c' h => (by rw [start_get] at h; cases h)⟩
theorem Rel.setRo {G : Nat} {ι : Emb} {h : AH} {w : World} (r : Rel G ι h w) (hro : RO h) {g : Nat} (hg : g < G) {cs : List AV} (hb : BRel ι w g (.cells cs true)) : Rel G ι (h.set g (.cells cs true)) w ∧ RO (h.set g (.cells cs true)) := by
 have hro' : RO (h.set g (.cells cs true)) := fun b c hb' => by
  rw [Hp.get_set] at hb'
  split at hb'
  · cases hb'; simp [Blk.rw]
  · exact hro b c hb'
 refine ⟨⟨r.n, fun b c hb' => ?_, r.gn, r.glob, fun b c hb' => ?_, fun b b' c c' hb1 _ _ hrw _ => absurd hrw (hro' b c hb1)⟩, hro'⟩
 · rw [Hp.get_set] at hb'
   split at hb'
   · rename_i he; subst he; have := r.gn; simp; omega
   · exact r.dom b c hb'
 · rw [Hp.get_set] at hb'
   split at hb'
   · rename_i he; cases hb'; rw [he]; exact hb
   · exact r.brel b c hb'
theorem laid_rel {P : Program} {w : World} {f : Nat} : ∀ {laid : List (String × DataW Unit)} {ps : List MemPlace} {h h' : AH} {ι : Emb}, DataW.LaidVars P w laid ps → absLaid P f laid h = some h' →
    Rel P.globals.size ι h w → RO h → (embW P.globals.size w).le ι → ∃ ι', Rel P.globals.size ι' h' w ∧ RO h' ∧ (embW P.globals.size w).le ι'
 | [], _, h, h', ι, _, ha, r, hro, hle => by cases ha; exact ⟨ι, r, hro, hle⟩
 | (n, d) :: l, ps, h, h', ι, hv, ha, r, hro, hle => by
   obtain ⟨g, t, cs, fuel, p, q, h1, h2, h3, h4, h5, _⟩ := hv
   simp only [absLaid, h1, h2] at ha
   split at ha
   · rename_i as h2' habs
     split at ha
     · rename_i hg
       obtain ⟨ι', r', hle', hro', hrel⟩ := tells (opq := fun _ => false) (G := P.globals.size) fuel f t cs.toList d p h4 ι h as h2' r hro habs
       have hle2 := hle.trans hle'
       obtain ⟨e, fr, hblk⟩ : ∃ e fr, w.heap[g]? = some (.cells cs e fr) := by
        unfold World.var? at h3
        rw [h1] at h3
        simp only [Option.bind_some] at h3
        split at h3
        · rename_i c e fr hh; cases h3; exact ⟨e, fr, hh⟩
        · cases h3
       have hshape : w.shape? g = some (e, cs.size) := by unfold World.shape?; rw [hblk]
       have hgl := r'.glob g hg
       have hsz : ι'.size g = cs.size := by
        rw [hle2.size g hg]; simp [embW, hshape]
       have hty : ι'.ty g = e := by
        rw [hle2.ty g hg]; simp [embW, hshape]
       obtain ⟨r2, ro2⟩ := r'.setRo hro' hg (cs := as) ⟨cs, e, fr, by rw [hgl.1]; exact hblk, hsz, fun i c hc => by
        obtain ⟨v, k1, k2⟩ := hrel.get i c hc
        exact ⟨v, by rw [hgl.2, Nat.zero_add, ← Array.getElem?_toList]; exact k1, k2⟩, (fun hh => by cases hh), hty⟩
       exact laid_rel h5 ha r2 ro2 hle2
     · cases ha
   · cases ha
theorem Rel.setVar {G : Nat} {ι : Emb} {h : AH} {w : World} (r : Rel G ι h w) (hro : RO h) (hle : (embW G w).le ι) {g : Nat} (hg : g < G) {a : AV} {v : Value} (hc : w.cell? ⟨g, 0, none⟩ = some v) (hv : VRel ι a v) :
    Rel G ι (h.set g (.cells [a] true)) w ∧ RO (h.set g (.cells [a] true)) := by
 obtain ⟨arr, e, fr, hb, h0⟩ : ∃ arr e fr, w.heap[g]? = some (.cells arr e fr) ∧ arr[0]? = some v := by
  unfold World.cell? at hc
  simp only [Option.isSome_none, Bool.false_eq_true, if_false] at hc
  split at hc
  · rename_i c e fr hh; exact ⟨c, e, fr, hh, hc⟩
  · cases hc
 have hshape : w.shape? g = some (e, arr.size) := by unfold World.shape?; rw [hb]
 have hgl := r.glob g hg
 refine r.setRo hro hg ⟨arr, e, fr, by rw [hgl.1]; exact hb, by rw [hle.size g hg]; simp [embW, hshape], fun i c hi => ?_, (fun hh => by cases hh), by rw [hle.ty g hg]; simp [embW, hshape]⟩
 cases i with
 | zero => simp at hi; subst hi; exact ⟨v, by rw [hgl.2]; exact h0, hv⟩
 | succ i => simp at hi
end Go.Fs
end

section
/- What a reading looks like, by its type. -/
namespace Go.Fs
section
variable {H : Type} {P : Program} {enc : TypeId × Value → H} {w : World} {base : Nat} {sp : Nat → Bool} {held : Bool}
theorem trod_bool {fuel : Nat} {t : TypeId} {cs : List Value} {d : DataW H} {ps : List MemPlace} (hu : P.underlying t = some .bool) (h : DataW.trod enc P w base sp held fuel t cs = some (d, ps)) : ∃ b, d = .lit (.bool b) := by
 cases fuel with
 | zero => cases h
 | succ f =>
   unfold DataW.trod at h
   split at h <;> rename_i h1 <;> (rw [hu] at h1) <;> first | (cases h1; done) | skip
   · cases h; exact ⟨_, rfl⟩
   all_goals (cases h)
theorem trod_int {fuel : Nat} {t : TypeId} {k : IntKind} {cs : List Value} {d : DataW H} {ps : List MemPlace} (hu : P.underlying t = some (.int k)) (h : DataW.trod enc P w base sp held fuel t cs = some (d, ps)) :
    ∃ n, d = .lit (.int k n) ∧ k.min ≤ n ∧ n ≤ k.max := by
 cases fuel with
 | zero => cases h
 | succ f =>
   unfold DataW.trod at h
   split at h <;> rename_i h1 <;> (rw [hu] at h1) <;> first | (cases h1; done) | skip
   · cases h1
     split at h
     · rename_i hk
       cases h
       have := hk.2
       simp only [Lit.wf, Bool.and_eq_true, decide_eq_true_eq] at this
       exact ⟨_, rfl, this⟩
     · cases h
   all_goals (cases h)
theorem trod_string {fuel : Nat} {t : TypeId} {cs : List Value} {d : DataW H} {ps : List MemPlace} (hu : P.underlying t = some .string) (h : DataW.trod enc P w base sp held fuel t cs = some (d, ps)) :
    ∃ bs : List UInt8, d = .lit (.string bs) ∧ bs.length ≤ maxLen := by
 cases fuel with
 | zero => cases h
 | succ f =>
   unfold DataW.trod at h
   split at h <;> rename_i h1 <;> (rw [hu] at h1) <;> first | (cases h1; done) | skip
   · split at h
     · rename_i s hk
       cases h
       exact ⟨_, rfl, by simpa using hk⟩
     · cases h
   all_goals (cases h)
theorem trod_struct {fuel : Nat} {t : TypeId} {fs : Array Field} {cs : List Value} {d : DataW H} {ps : List MemPlace} (hu : P.underlying t = some (.struct fs)) (h : DataW.trod enc P w base sp held fuel t cs = some (d, ps)) :
    ∃ (f : Nat) (xs : List (DataW H × List MemPlace)), d = .agg (xs.map (·.1)) ∧ fs.toList.mapM (fun fd => DataW.trod enc P w base sp held f fd.type ((cs.drop fd.offset).take (P.cellsOf fd.type))) = some xs := by
 cases fuel with
 | zero => cases h
 | succ f =>
   unfold DataW.trod at h
   split at h <;> rename_i h1 <;> (rw [hu] at h1) <;> first | (cases h1; done) | skip
   · cases h1
     split at h
     · obtain ⟨xs, hxs, he⟩ := Option.map_eq_some_iff.1 h
       cases he
       exact ⟨f, xs, rfl, hxs⟩
     · cases h
   all_goals (cases h)
theorem trod_slice {fuel : Nat} {t e : TypeId} {cs : List Value} {d : DataW H} {ps : List MemPlace} (hu : P.underlying t = some (.slice e)) (h : DataW.trod enc P w base (fun _ => true) held fuel t cs = some (d, ps)) :
    d = .nil ∨ ∃ (f : Nat) (xs ys : List (DataW H × List MemPlace)), d = .slice (xs.map (·.1)) (ys.map (·.1)) ∧ xs.length + ys.length ≤ maxLen ∧ ∀ x ∈ xs ++ ys, ∃ cs', DataW.trod enc P w base (fun _ => true) held f e cs' = some x := by
 cases fuel with
 | zero => cases h
 | succ f =>
   unfold DataW.trod at h
   split at h <;> rename_i h1 <;> (rw [hu] at h1) <;> first | (cases h1; done) | skip
   · cases h; exact .inl rfl
   · cases h1
     simp only at h
     split at h
     · rename_i hb
       simp only [if_true, Option.bind_eq_some_iff, Option.map_eq_some_iff, Prod.mk.injEq] at h
       obtain ⟨xs, hx, ys, hy, rfl, rfl⟩ := h
       obtain ⟨g1, g2⟩ := mapM_at _ _ _ hx
       obtain ⟨k1, k2⟩ := mapM_at _ _ _ hy
       simp only [List.length_range] at g1 k1
       refine .inr ⟨f, xs, ys, rfl, by omega, fun x hx' => ?_⟩
       rcases List.mem_append.1 hx' with hm | hm
       · obtain ⟨i, hi, rfl⟩ := List.mem_iff_getElem.1 hm
         obtain ⟨c, _, hc⟩ := Option.bind_eq_some_iff.1 (g2 i i xs[i] (List.getElem?_range (by omega)) (List.getElem?_eq_getElem hi))
         exact ⟨c, hc⟩
       · obtain ⟨i, hi, rfl⟩ := List.mem_iff_getElem.1 hm
         obtain ⟨c, _, hc⟩ := Option.bind_eq_some_iff.1 (k2 i i ys[i] (List.getElem?_range (by omega)) (List.getElem?_eq_getElem hi))
         exact ⟨c, hc⟩
     · cases h
   all_goals (cases h)
end
end Go.Fs
end

section
/- The abstract machine without fuel: what a call comes to with fuel enough. A run without fuel is a run with some fuel. -/
namespace Go.Fs
open Go.RowKit
noncomputable def limO {α : Type} (f : Nat → Option α) : Option α :=
 open Classical in if h : ∃ n r, f n = some r then f (Classical.choose h) else none
def Rises {α : Type} (f : Nat → Option α) : Prop := ∀ n r, f n = some r → f (n + 1) = some r
theorem Rises.le {α : Type} {f : Nat → Option α} (h : Rises f) {n m : Nat} (hn : n ≤ m) {r : α} (hr : f n = some r) : f m = some r := by
 induction hn with
 | refl => exact hr
 | step _ ih => exact h _ _ ih
theorem limO_ex {α : Type} {f : Nat → Option α} {r : α} (h : limO f = some r) : ∃ n, f n = some r := by
 unfold limO at h
 split at h
 · exact ⟨_, h⟩
 · cases h
theorem limO_of {α : Type} {f : Nat → Option α} (hf : Rises f) {n : Nat} {r : α} (h : f n = some r) : limO f = some r := by
 have hx : ∃ n r, f n = some r := ⟨n, r, h⟩
 unfold limO
 rw [dif_pos hx]
 obtain ⟨r', hr'⟩ := Classical.choose_spec hx
 rcases Nat.le_total n (Classical.choose hx) with hle | hle
 · exact hf.le hle h
 · rw [← h, hf.le hle hr', hr']
theorem limO_none {α : Type} {f : Nat → Option α} (h : ∀ n, f n = none) : limO f = none := by
 unfold limO
 rw [dif_neg]
 rintro ⟨n, r, hr⟩
 rw [h] at hr
 cases hr
theorem iter_rises (body : List AV → AH → Option St) : ∀ n tm h r, iter body n tm h = some r → iter body (n + 1) tm h = some r
 | 0, _, _, _, h => by cases h
 | n + 1, tm, hp, r, h => by
   rw [iter] at h ⊢
   split at h
   · exact iter_rises body n _ _ _ h
   · rw [h]
noncomputable def iterW (body : List AV → AH → Option St) (tm : List AV) (h : AH) : Option St := limO fun n => iter body n tm h
theorem iterW_eq (body : List AV → AH → Option St) (tm : List AV) (h : AH) :
    iterW body tm h = match body tm h with
     | some (.normal, tm', h') => iterW body tm' h'
     | r => r := by
 split
 · rename_i tm' h' hb
   unfold iterW
   cases hc : limO fun n => iter body n tm' h' with
   | some r =>
     obtain ⟨n, hn⟩ := limO_ex hc
     refine limO_of (n := n + 1) (fun n r => iter_rises body n tm h r) ?_
     simp only [iter, hb]
     exact hn
   | none =>
     refine limO_none fun n => ?_
     cases n with
     | zero => rfl
     | succ n =>
       simp only [iter, hb]
       cases hn : iter body n tm' h' with
       | none => rfl
       | some r =>
         rw [limO_of (n := n) (fun n r => iter_rises body n tm' h' r) hn] at hc
         cases hc
 · rename_i hb
   unfold iterW
   cases hr : body tm h with
   | none =>
     refine limO_none fun n => ?_
     cases n with
     | zero => rfl
     | succ n => simp only [iter, hr]
   | some r =>
     refine limO_of (n := 1) (fun n r => iter_rises body n tm h r) ?_
     simp only [iter, hr]
     obtain ⟨e, tm', h'⟩ := r
     cases e with
     | normal => exact absurd hr (hb _ _)
     | exit id => rfl
     | ret => rfl
def Rec.le (c d : Rec) : Prop := ∀ f args h r, c f args h = some r → d f args h = some r
theorem effRun_le {c d : Rec} (hcd : c.le d) {o : CO} {tm : List AV} {h : AH} {r : AV × AH} (hr : effRun c o tm h = some r) : effRun d o tm h = some r := by
 cases o with
 | call f args =>
   simp only [effRun] at hr ⊢
   split at hr
   · rename_i hf
     exact hcd _ _ _ _ hr
   · cases hr
 | _ => exact hr
theorem runOp_le {c d : Rec} (hcd : c.le d) {o : CO} {tm : List AV} {h : AH} {r : AV × AH} (hr : runOp c o tm h = some r) : runOp d o tm h = some r := by
 unfold runOp at hr ⊢
 split at hr
 · rename_i hq; rw [if_pos hq]; exact hr
 · rename_i hq; rw [if_neg hq]; exact effRun_le hcd hr
theorem runOps_le {c d : Rec} (hcd : c.le d) : ∀ {os : List CR} {tm : List AV} {h : AH} {r : List AV × AH}, runOps c os tm h = some r → runOps d os tm h = some r
 | [], _, _, _, hr => hr
 | o :: os, tm, h, r, hr => by
   simp only [runOps] at hr ⊢
   split at hr
   · rename_i hw
     rw [if_pos hw]
     obtain ⟨⟨v, h'⟩, h1, h2⟩ := Option.bind_eq_some_iff.1 hr
     rw [runOp_le hcd h1]
     exact runOps_le hcd h2
   · rename_i hw
     rw [if_neg hw]
     exact runOps_le hcd hr
theorem calmRun_le {c d : Rec} (hcd : c.le d) {o : CD} {tm : List AV} {h : AH} {v : AV} (hr : calmRun c o tm h = some v) : calmRun d o tm h = some v := by
 unfold calmRun at hr ⊢
 split at hr
 · rename_i hq; rw [if_pos hq]; exact hr
 · rename_i hq
   rw [if_neg hq]
   unfold stillRun at hr ⊢
   split at hr
   · split at hr
     · rename_i he
       rw [effRun_le hcd he]
       exact hr
     · cases hr
   · cases hr
theorem agrees_iff {c : Rec} {o : CD} {tm : List AV} {v : AV} {h : AH} : agrees c o tm v h = true ↔ ∃ u, calmRun c o tm h = some u ∧ u.same v = true := by
 unfold agrees
 cases calmRun c o tm h <;> simp
theorem steady_le {c d : Rec} (hcd : c.le d) {hs : List AH} : ∀ {os : List CD} {rs : List (List AV × AV × Bool)}, steady c hs os rs = true → steady d hs os rs = true
 | [], _, _ => rfl
 | _ :: _, [], _ => rfl
 | o :: os, (tm, v, wt) :: rs, h => by
   simp only [steady, Bool.and_eq_true, Bool.or_eq_true] at h ⊢
   refine ⟨h.1.imp id fun h1 => ?_, steady_le hcd h.2⟩
   rw [List.all_eq_true] at h1 ⊢
   intro x hx
   obtain ⟨u, h2, h3⟩ := agrees_iff.1 (h1 x hx)
   exact agrees_iff.2 ⟨u, calmRun_le hcd h2, h3⟩
theorem runT_le {c d : Rec} (hcd : c.le d) : ∀ {os : List CD} {tm : List AV} {h : AH} {r : List (List AV × AV × Bool) × List AH × List AV}, runT c os tm h = some r → runT d os tm h = some r
 | [], _, _, _, hr => hr
 | o :: os, tm, h, r, hr => by
   simp only [runT] at hr ⊢
   split at hr
   · rename_i hw
     rw [if_pos hw]
     split at hr
     · rename_i hq
       rw [if_pos hq]
       obtain ⟨v, h1, h2⟩ := Option.bind_eq_some_iff.1 hr
       obtain ⟨⟨rs, hs, tm'⟩, h3, h4⟩ := Option.map_eq_some_iff.1 h2
       rw [calmRun_le hcd h1]
       simp only [Option.bind_some]
       rw [runT_le hcd h3]
       exact congrArg some h4
     · rename_i hq
       rw [if_neg hq]
       obtain ⟨⟨v, h'⟩, h1, h2⟩ := Option.bind_eq_some_iff.1 hr
       obtain ⟨⟨rs, hs, tm'⟩, h3, h4⟩ := Option.map_eq_some_iff.1 h2
       rw [effRun_le hcd h1]
       simp only [Option.bind_some]
       rw [runT_le hcd h3]
       exact congrArg some h4
   · rename_i hw
     rw [if_neg hw]
     obtain ⟨⟨rs, hs, tm'⟩, h3, h4⟩ := Option.map_eq_some_iff.1 hr
     rw [runT_le hcd h3]
     exact congrArg some h4
theorem runD_le {c d : Rec} (hcd : c.le d) {os : List CD} {tm : List AV} {h : AH} {r : List AV × AH} (hr : runD c os tm h = some r) : runD d os tm h = some r := by
 unfold runD at hr ⊢
 split at hr
 · rename_i h1
   rw [runT_le hcd h1]
   simp only
   split at hr
   · rename_i h2
     rw [if_pos (steady_le hcd h2)]
     exact hr
   · cases hr
 · cases hr
theorem iter_le {b b' : List AV → AH → Option St} (hb : ∀ tm h r, b tm h = some r → b' tm h = some r) : ∀ {n m : Nat}, n ≤ m → ∀ {tm : List AV} {h : AH} {r : St}, iter b n tm h = some r → iter b' m tm h = some r
 | 0, _, _, _, _, _, h => by cases h
 | n + 1, 0, hn, _, _, _, _ => by omega
 | n + 1, m + 1, hn, tm, h, r, hr => by
   rw [iter] at hr ⊢
   split at hr
   · rename_i h1
     rw [hb _ _ _ h1]
     exact iter_le hb (by omega) hr
   · rename_i h1
     rw [hb _ _ _ hr]
     obtain ⟨e, tm', h'⟩ := r
     cases e with
     | normal => exact absurd hr (h1 _ _)
     | exit id => rfl
     | ret => rfl
theorem runC_le {c d : Rec} (hcd : c.le d) {n m : Nat} (hn : n ≤ m) : ∀ {x : CC} {tm : List AV} {h : AH} {r : St}, runC c n x tm h = some r → runC d m x tm h = some r
 | .skip, _, _, _, hr => hr
 | .region ops, tm, h, r, hr => by
   simp only [runC, Option.map_eq_some_iff] at hr ⊢
   obtain ⟨a, h1, h2⟩ := hr
   exact ⟨a, runOps_le hcd h1, h2⟩
 | .regionD ops, tm, h, r, hr => by
   simp only [runC, Option.map_eq_some_iff] at hr ⊢
   obtain ⟨a, h1, h2⟩ := hr
   exact ⟨a, runD_le hcd h1, h2⟩
 | .seq a b, tm, h, r, hr => by
   rw [runC] at hr ⊢
   split at hr
   · rename_i h1
     rw [runC_le hcd hn h1]
     exact runC_le hcd hn hr
   · rename_i h1
     rw [runC_le hcd hn hr]
     obtain ⟨e, tm', h'⟩ := r
     cases e with
     | normal => exact absurd hr (h1 _ _)
     | exit id => rfl
     | ret => rfl
 | .cond x a b, tm, h, r, hr => by
   rw [runC] at hr ⊢
   split at hr
   · exact runC_le hcd hn hr
   · exact runC_le hcd hn hr
   · cases hr
 | .block id a, tm, h, r, hr => by
   rw [runC] at hr ⊢
   split at hr
   · rename_i h1
     rw [runC_le hcd hn h1]
     exact hr
   · rename_i h1
     rw [runC_le hcd hn hr]
     obtain ⟨e, tm', h'⟩ := r
     cases e with
     | normal => rfl
     | exit id => exact absurd hr (h1 _ _ _)
     | ret => rfl
 | .loop a, tm, h, r, hr => by
   rw [runC] at hr ⊢
   exact iter_le (fun _ _ _ h1 => runC_le hcd hn h1) hn hr
 | .exit id, _, _, _, hr => hr
 | .ret, _, _, _, hr => hr
 | .stop, _, _, _, hr => by cases hr
theorem runF_le {c d : Rec} (hcd : c.le d) {n m : Nat} (hn : n ≤ m) {f : CF} {args : List AV} {h : AH} {r : AV × AH} (hr : runF c n f args h = some r) : runF d m f args h = some r := by
 unfold runF at hr ⊢
 split at hr
 · rename_i h1
   rw [runC_le hcd hn h1]
   exact hr
 · rename_i h1
   rw [runC_le hcd hn h1]
   exact hr
 · cases hr
theorem run_rises (orc : Orc) (tbl : Nat → Option CF) : ∀ n : Nat, Rec.le (runO orc tbl n) (runO orc tbl (n + 1))
 | 0, _, _, _, _, hr => by cases hr
 | n + 1, f, args, h, r, hr => by
   rw [runO] at hr ⊢
   split at hr
   · exact hr
   split at hr
   · exact runF_le (run_rises orc tbl n) (Nat.le_succ n) hr
   · cases hr
theorem run_le (orc : Orc) (tbl : Nat → Option CF) {n m : Nat} (h : n ≤ m) : Rec.le (runO orc tbl n) (runO orc tbl m) := by
 induction h with
 | refl => exact fun _ _ _ _ h => h
 | step _ ih => exact fun f a h r hr => run_rises orc tbl _ _ _ _ _ (ih _ _ _ _ hr)
noncomputable def runW (call : Rec) : CC → List AV → AH → Option St
 | .skip, tm, h => some (.normal, tm, h)
 | .region ops, tm, h => (runOps call ops tm h).map fun (tm', h') => (.normal, tm', h')
 | .regionD ops, tm, h => (runD call ops tm h).map fun (tm', h') => (.normal, tm', h')
 | .seq a b, tm, h => match runW call a tm h with
   | some (.normal, tm', h') => runW call b tm' h'
   | r => r
 | .cond c x y, tm, h => match c.ev tm with
   | .bool true => runW call x tm h
   | .bool false => runW call y tm h
   | _ => none
 | .block id c, tm, h => match runW call c tm h with
   | some (.exit id', tm', h') => if id' = id then some (.normal, tm', h') else some (.exit id', tm', h')
   | r => r
 | .loop c, tm, h => iterW (runW call c) tm h
 | .exit id, tm, h => some (.exit id, tm, h)
 | .ret, tm, h => some (.ret, tm, h)
 | .stop, _, _ => none
noncomputable def runFW (call : Rec) (f : CF) (args : List AV) (h : AH) : Option (AV × AH) :=
 match runW call f.body (args ++ List.replicate (f.ntmps - args.length) AV.undef) (h.withLow h.n) with
 | some (.normal, tm, h') | some (.ret, tm, h') => (resAll tm h' f.res).map (settle h h')
 | _ => none
noncomputable def acall (orc : Orc) (tbl : Nat → Option CF) : Rec := fun f args h => limO fun n => runO orc tbl n f args h
theorem acall_ex {orc : Orc} {tbl : Nat → Option CF} {f : Nat} {args : List AV} {h : AH} {r : AV × AH} (hr : acall orc tbl f args h = some r) : ∃ n, runO orc tbl n f args h = some r := limO_ex hr
theorem acall_of {orc : Orc} {tbl : Nat → Option CF} {n f : Nat} {args : List AV} {h : AH} {r : AV × AH} (hr : runO orc tbl n f args h = some r) : acall orc tbl f args h = some r :=
 limO_of (fun n r => run_rises orc tbl n f args h r) hr
section
variable (orc : Orc) (tbl : Nat → Option CF)
def Ev {α : Type} (f : Rec → Nat → Option α) (r : α) : Prop := ∃ n, ∀ m, n ≤ m → f (runO orc tbl m) m = some r
theorem ev_effRun {o : CO} {tm : List AV} {h : AH} {r : AV × AH} (hr : effRun (acall orc tbl) o tm h = some r) : Ev orc tbl (fun c _ => effRun c o tm h) r := by
 cases o with
 | call f args =>
   simp only [effRun] at hr
   split at hr
   · rename_i hf
     obtain ⟨n, hn⟩ := acall_ex hr
     exact ⟨n, fun m hm => by simp only [effRun, hf]; exact run_le orc tbl hm _ _ _ _ hn⟩
   · cases hr
 | _ => exact ⟨0, fun _ _ => hr⟩
theorem ev_runOps : ∀ {os : List CR} {tm : List AV} {h : AH} {r : List AV × AH}, runOps (acall orc tbl) os tm h = some r → Ev orc tbl (fun c _ => runOps c os tm h) r
 | [], _, _, _, hr => ⟨0, fun _ _ => hr⟩
 | o :: os, tm, h, r, hr => by
   simp only [runOps] at hr
   split at hr
   · rename_i hw
     obtain ⟨⟨v, h'⟩, h1, h2⟩ := Option.bind_eq_some_iff.1 hr
     obtain ⟨n, hn⟩ := ev_runOps h2
     by_cases hq : o.op.quiet = true
     · refine ⟨n, fun m hm => ?_⟩
       simp only [runOps, if_pos hw]
       have : runOp (runO orc tbl m) o.op tm h = some (v, h') := by simp only [runOp, if_pos hq] at h1 ⊢; exact h1
       rw [this]
       exact hn m hm
     · have h3 : effRun (acall orc tbl) o.op tm h = some (v, h') := by simpa only [runOp, if_neg hq] using h1
       obtain ⟨k, hk⟩ := ev_effRun orc tbl h3
       refine ⟨max n k, fun m hm => ?_⟩
       simp only [runOps, if_pos hw]
       have : runOp (runO orc tbl m) o.op tm h = some (v, h') := by simp only [runOp, if_neg hq]; exact hk m (by omega)
       rw [this]
       exact hn m (by omega)
   · rename_i hw
     obtain ⟨n, hn⟩ := ev_runOps hr
     exact ⟨n, fun m hm => by simp only [runOps, if_neg hw]; exact hn m hm⟩
theorem ev_calm {o : CD} {tm : List AV} {h : AH} {v : AV} (hr : calmRun (acall orc tbl) o tm h = some v) : ∃ n, ∀ m, n ≤ m → calmRun (runO orc tbl m) o tm h = some v := by
 unfold calmRun at hr
 split at hr
 · rename_i hq
   exact ⟨0, fun m _ => by unfold calmRun; rw [if_pos hq]; exact hr⟩
 · rename_i hq
   unfold stillRun at hr
   split at hr
   · rename_i f as ho
     split at hr
     · rename_i v' h' he
       obtain ⟨n, hn⟩ := ev_effRun orc tbl he
       refine ⟨n, fun m hm => ?_⟩
       unfold calmRun stillRun
       rw [if_neg hq]
       simp only [ho]
       rw [← ho, show effRun (runO orc tbl m) o.op tm (h.withLow h.n) = some (v', h') from hn m hm]
       exact hr
     · cases hr
   · cases hr
theorem ev_agrees {o : CD} {tm : List AV} {v : AV} : ∀ {hs : List AH}, hs.all (agrees (acall orc tbl) o tm v) = true → ∃ n, ∀ m, n ≤ m → hs.all (agrees (runO orc tbl m) o tm v) = true
 | [], _ => ⟨0, fun _ _ => rfl⟩
 | h :: hs, hr => by
   rw [List.all_cons, Bool.and_eq_true] at hr
   obtain ⟨u, h1, h2⟩ := agrees_iff.1 hr.1
   obtain ⟨n, hn⟩ := ev_calm orc tbl h1
   obtain ⟨k, hk⟩ := ev_agrees hr.2
   exact ⟨max n k, fun m hm => by rw [List.all_cons, Bool.and_eq_true]; exact ⟨agrees_iff.2 ⟨u, hn m (by omega), h2⟩, hk m (by omega)⟩⟩
theorem ev_steady {hs : List AH} : ∀ {os : List CD} {rs : List (List AV × AV × Bool)}, steady (acall orc tbl) hs os rs = true → ∃ n, ∀ m, n ≤ m → steady (runO orc tbl m) hs os rs = true
 | [], _, _ => ⟨0, fun _ _ => rfl⟩
 | _ :: _, [], _ => ⟨0, fun _ _ => rfl⟩
 | o :: os, (tm, v, wt) :: rs, h => by
   simp only [steady, Bool.and_eq_true, Bool.or_eq_true] at h
   obtain ⟨n, hn⟩ := ev_steady h.2
   rcases h.1 with h1 | h1
   · exact ⟨n, fun m hm => by simp only [steady, Bool.and_eq_true, Bool.or_eq_true]; exact ⟨.inl h1, hn m hm⟩⟩
   · obtain ⟨k, hk⟩ := ev_agrees orc tbl h1
     exact ⟨max n k, fun m hm => by simp only [steady, Bool.and_eq_true, Bool.or_eq_true]; exact ⟨.inr (hk m (by omega)), hn m (by omega)⟩⟩
theorem ev_runT : ∀ {os : List CD} {tm : List AV} {h : AH} {r : List (List AV × AV × Bool) × List AH × List AV}, runT (acall orc tbl) os tm h = some r → Ev orc tbl (fun c _ => runT c os tm h) r
 | [], _, _, _, hr => ⟨0, fun _ _ => hr⟩
 | o :: os, tm, h, r, hr => by
   simp only [runT] at hr
   split at hr
   · rename_i hw
     split at hr
     · rename_i hq
       obtain ⟨v, h1, h2⟩ := Option.bind_eq_some_iff.1 hr
       obtain ⟨x, h3, h4⟩ := Option.map_eq_some_iff.1 h2
       obtain ⟨n, hn⟩ := ev_runT h3
       obtain ⟨k, hk⟩ := ev_calm orc tbl h1
       refine ⟨max n k, fun m hm => ?_⟩
       simp only [runT, if_pos hw, if_pos hq, hk m (by omega), Option.bind_some]
       rw [show runT (runO orc tbl m) os _ h = some x from hn m (by omega)]
       exact congrArg some h4
     · rename_i hq
       obtain ⟨⟨v, h'⟩, h1, h2⟩ := Option.bind_eq_some_iff.1 hr
       obtain ⟨x, h3, h4⟩ := Option.map_eq_some_iff.1 h2
       obtain ⟨n, hn⟩ := ev_runT h3
       obtain ⟨k, hk⟩ := ev_effRun orc tbl h1
       refine ⟨max n k, fun m hm => ?_⟩
       simp only [runT, if_pos hw, if_neg hq]
       rw [show effRun (runO orc tbl m) o.op tm h = some (v, h') from hk m (by omega)]
       simp only [Option.bind_some]
       rw [show runT (runO orc tbl m) os _ h' = some x from hn m (by omega)]
       exact congrArg some h4
   · rename_i hw
     obtain ⟨x, h3, h4⟩ := Option.map_eq_some_iff.1 hr
     obtain ⟨n, hn⟩ := ev_runT h3
     refine ⟨n, fun m hm => ?_⟩
     simp only [runT, if_neg hw]
     rw [show runT (runO orc tbl m) os _ h = some x from hn m hm]
     exact congrArg some h4
theorem ev_runC : ∀ {x : CC} {tm : List AV} {h : AH} {r : St}, runW (acall orc tbl) x tm h = some r → Ev orc tbl (fun c n => runC c n x tm h) r
 | .skip, _, _, _, hr => ⟨0, fun _ _ => hr⟩
 | .region ops, tm, h, r, hr => by
   simp only [runW, Option.map_eq_some_iff] at hr
   obtain ⟨a, h1, h2⟩ := hr
   obtain ⟨n, hn⟩ := ev_runOps orc tbl h1
   exact ⟨n, fun m hm => by simp only [runC, Option.map_eq_some_iff]; exact ⟨a, hn m hm, h2⟩⟩
 | .regionD ops, tm, h, r, hr => by
   simp only [runW, Option.map_eq_some_iff] at hr
   obtain ⟨a, h1, h2⟩ := hr
   unfold runD at h1
   split at h1
   · rename_i hT
     split at h1
     · rename_i hS
       obtain ⟨n, hn⟩ := ev_runT orc tbl hT
       obtain ⟨k, hk⟩ := ev_steady orc tbl hS
       refine ⟨max n k, fun m hm => ?_⟩
       simp only [runC, Option.map_eq_some_iff]
       refine ⟨a, ?_, h2⟩
       unfold runD
       simp only [hn m (by omega), hk m (by omega), if_true]
       exact h1
     · cases h1
   · cases h1
 | .seq a b, tm, h, r, hr => by
   rw [runW] at hr
   split at hr
   · rename_i h1
     obtain ⟨n, hn⟩ := ev_runC h1
     obtain ⟨k, hk⟩ := ev_runC hr
     exact ⟨max n k, fun m hm => by simp only [runC, hn m (by omega)]; exact hk m (by omega)⟩
   · rename_i h1
     obtain ⟨n, hn⟩ := ev_runC hr
     refine ⟨n, fun m hm => ?_⟩
     simp only [runC, hn m hm]
     obtain ⟨e, tm', h'⟩ := r
     cases e with
     | normal => exact absurd hr (h1 _ _)
     | exit id => rfl
     | ret => rfl
 | .cond x a b, tm, h, r, hr => by
   rw [runW] at hr
   split at hr
   · rename_i hx
     obtain ⟨n, hn⟩ := ev_runC hr
     exact ⟨n, fun m hm => by simp only [runC, hx]; exact hn m hm⟩
   · rename_i hx
     obtain ⟨n, hn⟩ := ev_runC hr
     exact ⟨n, fun m hm => by simp only [runC, hx]; exact hn m hm⟩
   · cases hr
 | .block id a, tm, h, r, hr => by
   rw [runW] at hr
   split at hr
   · rename_i h1
     obtain ⟨n, hn⟩ := ev_runC h1
     exact ⟨n, fun m hm => by simp only [runC, hn m hm]; exact hr⟩
   · rename_i h1
     obtain ⟨n, hn⟩ := ev_runC hr
     refine ⟨n, fun m hm => ?_⟩
     simp only [runC, hn m hm]
     obtain ⟨e, tm', h'⟩ := r
     cases e with
     | normal => rfl
     | exit id => exact absurd hr (h1 _ _ _)
     | ret => rfl
 | .loop a, tm, h, r, hr => by
   rw [runW] at hr
   obtain ⟨k, hk⟩ := limO_ex hr
   have go : ∀ (k : Nat) (tm : List AV) (h : AH) (r : St), iter (runW (acall orc tbl) a) k tm h = some r → ∃ n, ∀ m, n ≤ m → iter (runC (runO orc tbl m) m a) k tm h = some r := by
    intro k
    induction k with
    | zero => intro _ _ _ h; cases h
    | succ k ih =>
      intro tm h r hr
      rw [iter] at hr
      split at hr
      · rename_i h1
        obtain ⟨n, hn⟩ := ev_runC h1
        obtain ⟨j, hj⟩ := ih _ _ _ hr
        exact ⟨max n j, fun m hm => by simp only [iter, hn m (by omega)]; exact hj m (by omega)⟩
      · rename_i h1
        obtain ⟨n, hn⟩ := ev_runC hr
        refine ⟨n, fun m hm => ?_⟩
        simp only [iter, hn m hm]
        obtain ⟨e, tm', h'⟩ := r
        cases e with
        | normal => exact absurd hr (h1 _ _)
        | exit id => rfl
        | ret => rfl
   obtain ⟨n, hn⟩ := go k tm h r hk
   exact ⟨max n k, fun m hm => by simp only [runC]; exact iter_le (fun _ _ _ h => h) (show k ≤ m by omega) (hn m (by omega))⟩
 | .exit id, _, _, _, hr => ⟨0, fun _ _ => hr⟩
 | .ret, _, _, _, hr => ⟨0, fun _ _ => hr⟩
 | .stop, _, _, _, hr => by cases hr
theorem acall_intro {orc : Orc} {tbl : Nat → Option CF} {f : Nat} {cf : CF} (hno : orc f = none) (hf : tbl f = some cf) {args : List AV} {h : AH} {r : AV × AH} (hr : runFW (acall orc tbl) cf args h = some r) : acall orc tbl f args h = some r := by
 have : ∃ n, runF (runO orc tbl n) n cf args h = some r := by
  unfold runFW at hr
  split at hr
  · rename_i h1
    obtain ⟨n, hn⟩ := ev_runC orc tbl h1
    have e := hn n (Nat.le_refl n)
    simp only at e
    exact ⟨n, by unfold runF; rw [e]; exact hr⟩
  · rename_i h1
    obtain ⟨n, hn⟩ := ev_runC orc tbl h1
    have e := hn n (Nat.le_refl n)
    simp only at e
    exact ⟨n, by unfold runF; rw [e]; exact hr⟩
  · cases hr
 obtain ⟨n, hn⟩ := this
 exact acall_of (n := n + 1) (by rw [runO, hno]; simp only [hf]; exact hn)
end
theorem calls_acall {P : Program} (hm : P.follows .mixedOrders = true) {orc : Orc} (ho : GoodOrc P orc) {f : Nat} (hb : ((P.funcs[f]?).bind (·.body)).isSome = true) {args : List AV} {h : AH} {x : Bool} {h' : AH} (hr : acall orc (tbl P) f args h = some (.bool x, h')) {ι : Emb} {w : World} {rargs : List Value}
    (r : Rel P.globals.size ι h w) (ha : VRels ι args rargs) (hro : ∀ b c, h.get b = some c → ¬ c.rw) :
    Calls P f rargs.toArray w fun e w' => e = .returned (.bool x) ∧ Below w.heap.size w w' := by
 obtain ⟨n, hn⟩ := acall_ex hr
 exact calls_bool hm ho hb hn r ha hro
end Go.Fs
end

section
/- Rules for what the abstract machine does, without fuel: code, loops, calls. -/
namespace Go.Fs
def WP (call : Rec) (c : CC) (tm : List AV) (h : AH) (Q : AEx → List AV → AH → Prop) : Prop := ∃ e tm' h', runW call c tm h = some (e, tm', h') ∧ Q e tm' h'
section
variable {call : Rec} {tm : List AV} {h : AH} {Q : AEx → List AV → AH → Prop}
theorem WP.mono {c : CC} {R : AEx → List AV → AH → Prop} (hw : WP call c tm h R) (hq : ∀ e tm' h', R e tm' h' → Q e tm' h') : WP call c tm h Q := by
 obtain ⟨e, tm', h', h1, h2⟩ := hw
 exact ⟨e, tm', h', h1, hq _ _ _ h2⟩
theorem WP.skip (hq : Q .normal tm h) : WP call .skip tm h Q := ⟨_, _, _, rfl, hq⟩
theorem WP.exit {id : Nat} (hq : Q (.exit id) tm h) : WP call (.exit id) tm h Q := ⟨_, _, _, rfl, hq⟩
theorem WP.ret (hq : Q .ret tm h) : WP call .ret tm h Q := ⟨_, _, _, rfl, hq⟩
theorem WP.region {ops : List CR} {tm' : List AV} {h' : AH} (hr : runOps call ops tm h = some (tm', h')) (hq : Q .normal tm' h') : WP call (.region ops) tm h Q :=
 ⟨_, _, _, by simp only [runW, hr, Option.map_some], hq⟩
theorem WP.regionD {ops : List CD} {tm' : List AV} {h' : AH} (hr : runD call ops tm h = some (tm', h')) (hq : Q .normal tm' h') : WP call (.regionD ops) tm h Q :=
 ⟨_, _, _, by simp only [runW, hr, Option.map_some], hq⟩
def andThen (call : Rec) (b : CC) (Q : AEx → List AV → AH → Prop) (e : AEx) (tm : List AV) (h : AH) : Prop :=
 match e with
 | .normal => WP call b tm h Q
 | e => Q e tm h
theorem WP.seq {a b : CC} (hw : WP call a tm h (andThen call b Q)) : WP call (.seq a b) tm h Q := by
 obtain ⟨e, tm', h', h1, h2⟩ := hw
 cases e with
 | normal =>
   obtain ⟨e2, tm2, h2', h3, h4⟩ := h2
   exact ⟨e2, tm2, h2', by simp only [runW, h1, h3], h4⟩
 | exit id => exact ⟨_, _, _, by simp only [runW, h1], h2⟩
 | ret => exact ⟨_, _, _, by simp only [runW, h1], h2⟩
theorem WP.cond {c : CA} {x y : CC} {b : Bool} (hc : c.ev tm = .bool b) (hx : b = true → WP call x tm h Q) (hy : b = false → WP call y tm h Q) : WP call (.cond c x y) tm h Q := by
 cases b with
 | true =>
   obtain ⟨e, tm', h', h1, h2⟩ := hx rfl
   exact ⟨e, tm', h', by simp only [runW, hc, h1], h2⟩
 | false =>
   obtain ⟨e, tm', h', h1, h2⟩ := hy rfl
   exact ⟨e, tm', h', by simp only [runW, hc, h1], h2⟩
def inBlock (id : Nat) (Q : AEx → List AV → AH → Prop) (e : AEx) (tm : List AV) (h : AH) : Prop :=
 match e with
 | .exit i => if i = id then Q .normal tm h else Q (.exit i) tm h
 | e => Q e tm h
theorem WP.block {id : Nat} {c : CC} (hw : WP call c tm h (inBlock id Q)) : WP call (.block id c) tm h Q := by
 obtain ⟨e, tm', h', h1, h2⟩ := hw
 cases e with
 | normal => exact ⟨_, _, _, by simp only [runW, h1], h2⟩
 | ret => exact ⟨_, _, _, by simp only [runW, h1], h2⟩
 | exit i =>
   simp only [inBlock] at h2
   by_cases hi : i = id
   · rw [if_pos hi] at h2
     exact ⟨_, _, _, by simp only [runW, h1, hi, if_true], h2⟩
   · rw [if_neg hi] at h2
     exact ⟨_, _, _, by simp only [runW, h1, hi, if_false], h2⟩
def inLoop (I : Nat → List AV → AH → Prop) (n : Nat) (Q : AEx → List AV → AH → Prop) (e : AEx) (tm : List AV) (h : AH) : Prop :=
 match e with
 | .normal => ∃ m, m < n ∧ I m tm h
 | e => Q e tm h
theorem WP.loop {c : CC} (I : Nat → List AV → AH → Prop) (n : Nat) (h0 : I n tm h) (hb : ∀ n tm h, I n tm h → WP call c tm h (inLoop I n Q)) : WP call (.loop c) tm h Q := by
 induction n using Nat.strongRecOn generalizing tm h with
 | _ n ih =>
   obtain ⟨e, tm', h', h1, h2⟩ := hb n tm h h0
   cases e with
   | normal =>
     obtain ⟨m, hm, hI⟩ := h2
     obtain ⟨e2, tm2, h2', h3, h4⟩ := ih m hm hI
     refine ⟨e2, tm2, h2', ?_, h4⟩
     simp only [runW] at h3 ⊢
     rw [iterW_eq, h1]
     exact h3
   | exit id =>
     refine ⟨_, _, _, ?_, h2⟩
     simp only [runW]
     rw [iterW_eq, h1]
   | ret =>
     refine ⟨_, _, _, ?_, h2⟩
     simp only [runW]
     rw [iterW_eq, h1]
end
def Done (f : CF) (h : AH) (v : AV) (h1 : AH) (e : AEx) (tm : List AV) (h' : AH) : Prop :=
 (e = .normal ∨ e = .ret) ∧ (resAll tm h' f.res).map (settle h h') = some (v, h1)
theorem acall_wp {orc : Orc} {tbl : Nat → Option CF} {f : Nat} {cf : CF} (hno : orc f = none) (hf : tbl f = some cf) {args : List AV} {h : AH} {v : AV} {h1 : AH}
    (hw : WP (acall orc tbl) cf.body (args ++ List.replicate (cf.ntmps - args.length) AV.undef) (h.withLow h.n) (Done cf h v h1)) : acall orc tbl f args h = some (v, h1) := by
 obtain ⟨e, tm', h', h2, h3, h4⟩ := hw
 refine acall_intro hno hf ?_
 unfold runFW
 rw [h2]
 rcases h3 with rfl | rfl <;> exact h4
end Go.Fs
end

section
/- Calls that are handed no places and hand back none: what they come to over an empty heap, they come to over each. -/
namespace Go.Fs
section
variable {P : Program}
theorem under_any {ι ι' : Emb} {v : AV} {rv : Value} (h : VRel ι v rv) (hu : v.under 0 = true) : VRel ι' v rv := by
 have e0 : ∀ j : Emb, (⟨0, j.blk, j.sh, j.size, j.ty⟩ : Emb).le j := fun j => ⟨Nat.zero_le _, fun _ _ => rfl, fun _ _ => rfl, fun _ _ => rfl, fun _ _ => rfl⟩
 have h1 := VRel.back (e0 ι) h hu
 have e1 : (⟨0, ι.blk, ι.sh, ι.size, ι.ty⟩ : Emb).le ι' := ⟨Nat.zero_le _, fun b hb => absurd hb (Nat.not_lt_zero _), fun b hb => absurd hb (Nat.not_lt_zero _), fun b hb => absurd hb (Nat.not_lt_zero _), fun b hb => absurd hb (Nat.not_lt_zero _)⟩
 exact h1.mono e1
theorem unders_any {ι ι' : Emb} {v : List AV} {rv : List Value} (h : VRels ι v rv) (hu : AV.unders 0 v = true) : VRels ι' v rv := by
 have e0 : ∀ j : Emb, (⟨0, j.blk, j.sh, j.size, j.ty⟩ : Emb).le j := fun j => ⟨Nat.zero_le _, fun _ _ => rfl, fun _ _ => rfl, fun _ _ => rfl, fun _ _ => rfl⟩
 have h1 := VRels.back (e0 ι) h hu
 have e1 : (⟨0, ι.blk, ι.sh, ι.size, ι.ty⟩ : Emb).le ι' := ⟨Nat.zero_le _, fun b hb => absurd hb (Nat.not_lt_zero _), fun b hb => absurd hb (Nat.not_lt_zero _), fun b hb => absurd hb (Nat.not_lt_zero _), fun b hb => absurd hb (Nat.not_lt_zero _)⟩
 exact h1.mono e1
theorem Rel.live_lt {G : Nat} {ι : Emb} {h : AH} {w : World} (r : Rel G ι h w) {b : Nat} {c : Blk} (hb : h.get b = some c) (hl : c.live) : ι.blk b < w.heap.size := by
 have := r.brel b c hb
 cases c with
 | cells cs ro => obtain ⟨arr, e, fr, h1, _⟩ := this; exact (Array.getElem?_eq_some_iff.1 h1).1
 | map es => obtain ⟨rs, cl, h1, _⟩ := this; exact (Array.getElem?_eq_some_iff.1 h1).1
 | iter s p => exact (Array.getElem?_eq_some_iff.1 this.1).1
 | typ _ _ => exact hl.elim
 | dead => exact hl.elim
theorem Rel.later {G : Nat} {ι : Emb} {h : AH} {w w' : World} (r : Rel G ι h w) (hk : ∀ k, k < w.heap.size → w'.heap[k]? = w.heap[k]?) : Rel G ι h w' :=
 ⟨r.n, r.dom, r.gn, r.glob, fun b c hb => (r.brel b c hb).mono (by rw [r.n]; exact r.dom b c hb) ι.le_refl fun hl => hk _ (r.live_lt hb hl), r.sep⟩
theorem Stp.later {ι ι' ι0 : Emb} {h0 h' h : AH} {w w' : World} (s : Stp ι0 ι' h0 h' w w') (hn : ∀ b, h0.get b = none) : Stp ι ι h h w w' :=
 ⟨ι.le_refl, s.os, s.tape, s.output, s.size, fun k hk _ => s.kept k hk fun b c hb => (by rw [hn] at hb; cases hb), fun b c hb hc => .inr ⟨b, c, hb, hc, rfl⟩, Nat.le_refl _, Nat.le_refl _, fun _ _ _ => rfl⟩
theorem acall_orc {orc : Orc} {tbl : Nat → Option CF} {f : Nat} {s : List AV → AH → Option (AV × AH)} (hs : orc f = some s) {args : List AV} {h : AH} {r : AV × AH} (hr : s args h = some r) : acall orc tbl f args h = some r :=
 acall_of (n := 1) (by rw [runO, hs]; exact hr)
end
end Go.Fs
end

