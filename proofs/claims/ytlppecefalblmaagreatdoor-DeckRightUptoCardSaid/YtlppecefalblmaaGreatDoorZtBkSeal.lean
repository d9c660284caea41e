/- Books sealed. -/
import Derived.Test.YtlppecefalblmaaGreatDoorFz05
import Derived.Test.YtlppecefalblmaaGreatDoorZtBkMark
namespace Go.Proofs.Cards
set_option maxRecDepth 100000
set_option maxHeartbeats 32000000
open Go Go.Fs
set_option linter.unusedSimpArgs false
set_option linter.unusedVariables false
variable {orc : Orc}
def cf66 : CF := ⟨58, [(.tmp 2)], (.seq (.region [Zo 2 (.mv (.c (.int .i64 0)))]) (.seq (.seq (.region [Zm 9 0, Zo 10 (.call (.f 117) [(.t 9)]), Zm 3 10]) (.seq (.region [Zm 11 3, Zb 12 .neq (.t 11) (.c (.int .i64 0))]) (.cond (.t 12) (.seq (.region [Zm 13 3, Zm 2 13]) .ret) .skip))) (.seq (.seq (.regionD [⟨Zm 14 0, 0, 0, false⟩, ⟨Zo 15 (.nilchk (.t 14)), 0, 0, false⟩, ⟨Zf 16 3 15, 0, 0, false⟩, ⟨Zm 17 0, 0, 0, false⟩, ⟨Zo 18 (.nilchk (.t 17)), 0, 0, false⟩, ⟨Zf 19 2 18, 0, 0, false⟩, ⟨Zl 20 19, 0, 0, false⟩, ⟨Zo 21 (.slcA 64 9 (.t 16) none (some (.t 20)) none), 0, 0, false⟩, ⟨Zo 22 (.lenV (.t 21)), 0, 0, false⟩, ⟨Zo 23 (.mv (.c (.int .i64 0))), 0, 0, false⟩]) (.block 0 (.loop (.seq (.region [Zb 24 .lss (.t 23) (.t 22)]) (.seq (.cond (.t 24) .skip (.exit 0)) (.seq (.block 1 (.seq (.region [Zo 25 (.iaddrS 9 (.t 21) (.t 23)), Zo 26 (.load (some 9) (.t 25)), Zo 5 (.alloc [(.str []), (.int .u8 0), (.int .u8 0), (.int .i64 0), (.int .i64 0), (.int .i64 0), (.int .u16 0), (.bool false), (.slice none 0 (.exact 0))]), Zn (.store 9 (.t 5) (.t 26))]) (.seq (.region [Zf 27 8 5, Zl 28 27, Zo 29 (.lenV (.t 28)), Zo 30 (.mv (.c (.int .i64 0)))]) (.block 2 (.loop (.seq (.region [Zb 31 .lss (.t 30) (.t 29)]) (.seq (.cond (.t 31) .skip (.exit 2)) (.seq (.block 3 (.seq (.region [Zo 32 (.iaddrS 8 (.t 28) (.t 30)), Zo 33 (.load (some 8) (.t 32)), Zo 7 (.alloc [(.int .u8 0), (.int .u8 0), (.int .u8 0), (.int .i64 0), (.int .u8 0), (.int .u8 0), (.int .u8 0), (.str [])]), Zn (.store 8 (.t 7) (.t 33))]) (.seq (.seq (.region [Zf 34 1 7, Zl 35 34, Zb 36 .neq (.t 35) (.c (.int .u8 7))]) (.cond (.t 36) (.exit 3) .skip)) (.seq (.region [Zm 37 0, Zf 38 7 7, Zl 39 38, Zo 40 (.call (.f 118) [(.t 37), (.t 39)]), Zm 8 40]) (.block 4 (.seq (.region [Zm 42 8, Zb 43 .lss (.t 42) (.c (.int .i64 0)), Zm 41 43]) (.cond (.t 41) (.seq (.region [Zo 2 (.mv (.c (.int .i64 6)))]) .ret) (.seq (.region [Zm 45 0, Zm 46 8, Zo 47 (.nilchk (.t 45)), Zf 48 3 47, Zo 49 (.iaddrA 64 9 (.t 48) (.t 46)), Zf 50 2 49, Zl 51 50, Zb 52 .eql (.t 51) (.c (.int .u8 2)), Zm 44 52]) (.cond (.t 44) (.seq (.region [Zo 2 (.mv (.c (.int .i64 8)))]) .ret) .skip))))))))) (.region [Zb 53 .add (.t 30) (.c (.int .i64 1)), Zm 30 53]))))))))) (.region [Zb 54 .add (.t 23) (.c (.int .i64 1)), Zm 23 54]))))))) (.seq (.region [Zm 55 0, Zo 56 (.nilchk (.t 55)), Zf 57 1 56, Zn (.store 1 (.t 57) (.c (.bool true)))]) (.seq (.region [Zo 2 (.mv (.c (.int .i64 0)))]) .ret)))))⟩
def cf67 : CF := ⟨67, [(.tmp 2)], (.seq (.region [Zo 2 (.mv (.c (.int .i64 0)))]) (.seq (.seq (.region [Zm 7 0, Zo 8 (.call (.f 120) [(.t 7)])]) (.cond (.t 8) (.seq (.region [Zo 2 (.mv (.c (.int .i64 1)))]) .ret) .skip)) (.seq (.seq (.region [Zm 9 0, Zo 10 (.nilchk (.t 9)), Zf 11 1 10, Zl 12 11]) (.cond (.t 12) (.seq (.region [Zo 2 (.mv (.c (.int .i64 7)))]) .ret) .skip)) (.seq (.seq (.region [Zo 3 (.mv (.c (.int .i64 0)))]) (.block 0 (.loop (.seq (.seq (.region [Zm 13 3, Zm 14 0, Zo 15 (.nilchk (.t 14)), Zf 16 2 15, Zl 17 16, Zo 18 (.lenV (.t 17)), Zb 19 .lss (.t 13) (.t 18)]) (.cond (.t 19) .skip (.exit 0))) (.seq (.block 1 (.seq (.region [Zo 4 (.mv (.c (.int .i64 0)))]) (.block 2 (.loop (.seq (.seq (.region [Zm 22 4, Zm 23 0, Zo 24 (.nilchk (.t 23)), Zf 25 2 24, Zl 26 25, Zm 27 3, Zo 28 (.iaddrS 9 (.t 26) (.t 27)), Zf 29 8 28, Zl 30 29, Zo 31 (.lenV (.t 30)), Zb 32 .lss (.t 22) (.t 31)]) (.cond (.t 32) .skip (.exit 2))) (.seq (.block 3 (.seq (.region [Zm 35 0, Zo 36 (.nilchk (.t 35)), Zf 37 2 36, Zl 38 37, Zm 39 3, Zo 40 (.iaddrS 9 (.t 38) (.t 39)), Zf 41 8 40, Zl 42 41, Zm 43 4, Zo 44 (.iaddrS 8 (.t 42) (.t 43)), Zo 45 (.load (some 8) (.t 44)), Zo 5 (.alloc [(.int .u8 0), (.int .u8 0), (.int .u8 0), (.int .i64 0), (.int .u8 0), (.int .u8 0), (.int .u8 0), (.str [])]), Zn (.store 8 (.t 5) (.t 45))]) (.seq (.seq (.region [Zf 46 1 5, Zl 47 46, Zb 48 .neq (.t 47) (.c (.int .u8 7))]) (.cond (.t 48) (.exit 3) .skip)) (.seq (.region [Zm 49 0, Zf 50 7 5, Zl 51 50, Zo 52 (.call (.f 121) [(.t 49), (.t 51)]), Zm 6 52]) (.seq (.seq (.region [Zm 53 6, Zb 54 .lss (.t 53) (.c (.int .i64 0))]) (.cond (.t 54) (.seq (.region [Zo 2 (.mv (.c (.int .i64 6)))]) .ret) .skip)) (.seq (.region [Zm 55 0, Zo 56 (.nilchk (.t 55)), Zf 57 2 56, Zl 58 57, Zm 59 6, Zo 60 (.iaddrS 9 (.t 58) (.t 59)), Zf 61 2 60, Zl 62 61, Zb 63 .eql (.t 62) (.c (.int .u8 2))]) (.cond (.t 63) (.seq (.region [Zo 2 (.mv (.c (.int .i64 8)))]) .ret) .skip))))))) (.region [Zm 33 4, Zb 34 .add (.t 33) (.c (.int .i64 1)), Zm 4 34]))))))) (.region [Zm 20 3, Zb 21 .add (.t 20) (.c (.int .i64 1)), Zm 3 21])))))) (.seq (.region [Zm 64 0, Zo 65 (.nilchk (.t 64)), Zf 66 1 65, Zn (.store 1 (.t 66) (.c (.bool true)))]) (.seq (.region [Zo 2 (.mv (.c (.int .i64 0)))]) .ret))))))⟩
theorem tbl66 : tbl Tryz.prog 66 = some cf66 := by kernel_rfl
theorem tbl67 : tbl Tryz.prog 67 = some cf67 := by kernel_rfl
def slcAVV (tm : List AV) (n esz : Nat) (v : AV) (lo hi mx : Option CA) (h : AH) : Option (AV × AH) := (quietRun (.slcA n esz (.c v) lo hi mx) tm h).map fun v => (v, h)
theorem op_slcA {call : Rec} {tm : List AV} {h : AH} (n esz : Nat) (x : CA) (lo hi mx : Option CA) : runOp call (.slcA n esz x lo hi mx) tm h = slcAVV tm n esz (x.ev tm) lo hi mx h := rfl
theorem slcA_hi {tm : List AV} {b o N i : Nat} {h : AH} (hi : tm.getD i AV.undef = .int .i64 (N : Int)) (hN : N ≤ 64) : slcAVV tm 64 9 (.ptr (some (b, o))) none (some (.t i)) none h = some (.slice (some (b, o)) N (.exact 64), h) := by
 unfold slcAVV
 simp only [quietRun, CA.ev, bounds3, optBound, highOf, hi, bound, Option.bind_some]
 rw [if_pos (by omega)]
 simp
abbrev Cd := Crd × List Prt
def nms (ds : List Cd) : List (List UInt8) := ds.map (·.1.name)
def firstZ : List Int → Int
 | [] => 0
 | e :: r => if e ≠ 0 then e else firstZ r
def callE (ds : List Cd) (p : Prt) : Int :=
 if p.b ≠ 7 then 0 else if plc (nms ds) p.s 0 < 0 then 6 else if (match ds[(plc (nms ds) p.s 0).toNat]? with | some d => d.1.kind == 2 | none => false) = true then 8 else 0
def cardSE (ds : List Cd) (d : Cd) : Int := firstZ (d.2.map (callE ds))
def sealE (ds : List Cd) : Int := firstZ (ds.map (cardSE ds))
theorem firstZ_at {α : Type} {f : α → Int} {l : List α} {i : Nat} {x : α} (h : l[i]? = some x) : firstZ ((l.drop i).map f) = if f x ≠ 0 then f x else firstZ ((l.drop (i + 1)).map f) := by
 obtain ⟨hi, e⟩ := List.getElem?_eq_some_iff.1 h
 rw [List.drop_eq_getElem_cons hi, e, List.map_cons, firstZ]
def Ares (N : Nat) (h : AH) (xs : List Cv) (ds : List Cd) : Prop := xs.length = ds.length ∧ ∀ (i : Nat) (x : Cv) (d : Cd), xs[i]? = some x → ds[i]? = some d → x.c = d.1 ∧ Own N h x.sl d.2 ∧ d.2.length ≤ 1152921504606846976
theorem Ares.off {N : Nat} {X Y : AH} {xs : List Cv} {ds : List Cd} (o : Ares N X xs ds) (hn : X.n ≤ Y.n) (hY : ∀ b, N ≤ b → b < X.n → Y.get b = X.get b) : Ares N Y xs ds :=
 ⟨o.1, fun i x d h1 h2 => ⟨(o.2 i x d h1 h2).1, (o.2 i x d h1 h2).2.1.off hn hY, (o.2 i x d h1 h2).2.2⟩⟩
theorem Ares.names {N : Nat} {h : AH} {xs : List Cv} {ds : List Cd} (o : Ares N h xs ds) : xs.map (·.c.name) = nms ds := by
 refine List.ext_getElem? fun i => ?_
 unfold nms
 rw [List.getElem?_map, List.getElem?_map]
 cases hx : xs[i]? with
 | none =>
   have := List.getElem?_eq_none_iff.1 hx
   rw [List.getElem?_eq_none (by rw [← o.1]; exact this)]
   rfl
 | some x =>
   have hi := (List.getElem?_eq_some_iff.1 hx).1
   obtain ⟨d, hd⟩ : ∃ d, ds[i]? = some d := ⟨_, List.getElem?_eq_getElem (by rw [← o.1]; exact hi)⟩
   rw [hd, Option.map_some, Option.map_some, (o.2 i x d hx hd).1]
theorem Ares.crds {N : Nat} {h : AH} {xs : List Cv} {ds : List Cd} (o : Ares N h xs ds) : xs.map (·.c) = ds.map (·.1) := by
 refine List.ext_getElem? fun i => ?_
 rw [List.getElem?_map, List.getElem?_map]
 cases hx : xs[i]? with
 | none =>
   have := List.getElem?_eq_none_iff.1 hx
   rw [List.getElem?_eq_none (by rw [← o.1]; exact this)]
   rfl
 | some x =>
   have hi := (List.getElem?_eq_some_iff.1 hx).1
   obtain ⟨d, hd⟩ : ∃ d, ds[i]? = some d := ⟨_, List.getElem?_eq_getElem (by rw [← o.1]; exact hi)⟩
   rw [hd, Option.map_some, Option.map_some, (o.2 i x d hx hd).1]
theorem Ares.ext {N : Nat} {h : AH} {xs : List Cv} {ds : List Cd} (o : Ares N h xs ds) {i : Nat} {x : Cv} (hx : xs[i]? = some x) : ∃ d, ds[i]? = some d ∧ x.c = d.1 ∧ Own N h x.sl d.2 ∧ Parts h x.sl d.2 := by
 have hi := (List.getElem?_eq_some_iff.1 hx).1
 obtain ⟨d, hd⟩ : ∃ d, ds[i]? = some d := ⟨_, List.getElem?_eq_getElem (by rw [← o.1]; exact hi)⟩
 obtain ⟨h1, h2, h3⟩ := o.2 i x d hx hd
 exact ⟨d, hd, h1, h2, own_prt h2 h3⟩
structure SoI (h : AH) (pa : Nat) (ds : List Cd) (n : Nat) (tm : List AV) (H : AH) : Prop where
 len : tm.length = 58
 t0 : tm.getD 0 AV.undef = .ptr (some (pa, 0))
 t21 : tm.getD 21 AV.undef = .slice (some (pa, 3)) ds.length (.exact 64)
 t22 : tm.getD 22 AV.undef = .int .i64 (ds.length : Int)
 hn : h.n ≤ H.n
 old : ∀ b, b < h.n → H.get b = h.get b
 low : h.n ≤ H.low
 st : ∃ i : Nat, n = ds.length - i ∧ i ≤ ds.length ∧ tm.getD 23 AV.undef = .int .i64 (i : Int) ∧ sealE ds = firstZ ((ds.drop i).map (cardSE ds))
structure SiI (h : AH) (pa : Nat) (ds : List Cd) (i : Nat) (v : AV) (ps : List Prt) (n : Nat) (tm : List AV) (H : AH) : Prop where
 len : tm.length = 58
 t0 : tm.getD 0 AV.undef = .ptr (some (pa, 0))
 t21 : tm.getD 21 AV.undef = .slice (some (pa, 3)) ds.length (.exact 64)
 t22 : tm.getD 22 AV.undef = .int .i64 (ds.length : Int)
 t23 : tm.getD 23 AV.undef = .int .i64 (i : Int)
 t28 : tm.getD 28 AV.undef = v
 t29 : tm.getD 29 AV.undef = .int .i64 (ps.length : Int)
 hn : h.n ≤ H.n
 old : ∀ b, b < h.n → H.get b = h.get b
 low : h.n ≤ H.low
 st : ∃ j : Nat, n = ps.length - j ∧ j ≤ ps.length ∧ tm.getD 30 AV.undef = .int .i64 (j : Int) ∧ firstZ (ps.map (callE ds)) = firstZ ((ps.drop j).map (callE ds))
theorem bseal_spec (ho : orc 66 = none) {pa N : Nat} {xs zs : List Cv} {ms : List Mrk} {ds : List Cd} {h : AH} (hb : h.get pa = some (.cells (bkC false xs.length (xs ++ zs) ms) false)) (hpa : pa < h.n) (hl : xs.length + zs.length = 64) (hA : Ares N h xs ds)
    (hS : ∀ (H : AH) (cs : List AV), H.get pa = some (.cells cs false) → cs[0]? = some (.bool true) → cs[1]? = some (.bool false) → acall orc T 117 [.ptr (some (pa, 0))] H = some (.int .i64 0, H))
    (hP : ∀ (s : List UInt8) (H : AH), H.get pa = some (.cells (bkC false xs.length (xs ++ zs) ms) false) → acall orc T 118 [.ptr (some (pa, 0)), .str s] H = some (.int .i64 (plc (nms ds) s 0), H)) :
    ∃ v1 h1, acall orc T 66 [.ptr (some (pa, 0))] h = some (v1, h1) ∧ v1 = .int .i64 (sealE ds) ∧ (sealE ds ≠ 0 → h1 = h) ∧
     (sealE ds = 0 → h1.get pa = some (.cells (bkC true xs.length (xs ++ zs) ms) false)) ∧ h.n ≤ h1.n ∧ (∀ b, b < h.n → b ≠ pa → h1.get b = h.get b) ∧ (∀ N, N ≤ pa → N ≤ h.low → N ≤ h1.low) := by
 refine acall_facts (R := fun v1 h1 => v1 = .int .i64 (sealE ds) ∧ (sealE ds ≠ 0 → h1 = h) ∧
     (sealE ds = 0 → h1.get pa = some (.cells (bkC true xs.length (xs ++ zs) ms) false)) ∧ h.n ≤ h1.n ∧ (∀ b, b < h.n → b ≠ pa → h1.get b = h.get b) ∧ (∀ N, N ≤ pa → N ≤ h.low → N ≤ h1.low)) ho tbl66 ?_
 simp only [Ef.settle_fst1]
 have f1 := hS (h.withLow h.n) _ hb (bk_0 _ _ _ _) (bk_1 _ _ _ _)
 have k2 := bk_2 false xs.length (xs ++ zs) ms
 have stay : ∀ (H : AH) (e : Int), h.n ≤ H.low → Fs.settle h H (.int .i64 e) = (.int .i64 e, h) := fun H e hh => settle_keep hh rfl
 have s1 : ∀ (tm : List AV) (hx : AH), tm.getD 20 AV.undef = .int .i64 (xs.length : Int) → slcAVV tm 64 9 (.ptr (some (pa, 3))) none (some (.t 20)) none hx = some (.slice (some (pa, 3)) xs.length (.exact 64), hx) := fun tm hx hi => slcA_hi hi (by omega)
 refine GD ?_
 simp only [show ([AV.str [], AV.int .u8 0, AV.int .u8 0, AV.int .i64 0, AV.int .i64 0, AV.int .i64 0, AV.int .u16 0, AV.bool false, AV.slice none 0 (.exact 0)] : List AV) = zeroC.cells nilV from rfl]
 have done : ∀ e : Int, sealE ds = e → e ≠ 0 → ∀ H : AH, h.n ≤ H.low → (AV.int .i64 e = .int .i64 (sealE ds) ∧ (sealE ds ≠ 0 → (Fs.settle h H (.int .i64 e)).2 = h) ∧
     (sealE ds = 0 → (Fs.settle h H (.int .i64 e)).2.get pa = some (.cells (bkC true xs.length (xs ++ zs) ms) false)) ∧ h.n ≤ (Fs.settle h H (.int .i64 e)).2.n ∧ (∀ b, b < h.n → b ≠ pa → (Fs.settle h H (.int .i64 e)).2.get b = h.get b) ∧ (∀ N, N ≤ pa → N ≤ h.low → N ≤ (Fs.settle h H (.int .i64 e)).2.low)) := fun e e1 e2 H hh => by
  rw [stay H e hh]
  exact ⟨by rw [e1], fun _ => rfl, fun q => absurd (e1.symm.trans q) e2, Nat.le_refl _, fun _ _ _ => rfl, fun _ _ hN => hN⟩
 (have fct := Fj @f1 (Fj @hb (Fj @k2 (Fj @s1 (Fj @op_slcA (Fj @op_nilchk @nilcV_ptr))))); refine GOD ?_; clear fct)
 have hxd := hA.1
 refine CodeK_loop (SoI h pa ds) ds.length ?_ ?_
 · exact ⟨rfl, rfl, by rw [← hxd]; rfl, by rw [← hxd]; rfl, by simp, fun _ _ => rfl, by simp, 0, rfl, by omega, rfl, rfl⟩
 clear f1 k2 s1
 intro n tm H I
 obtain ⟨i, hni, hi, e23, hse⟩ := I.st
 have el := I.len
 have e0 := I.t0
 have t21 := I.t21
 have t22 := I.t22
 have Hn := I.hn
 have old := I.old
 have lo := I.low
 clear I
 by_cases hlt : i < ds.length
 case neg =>
  obtain rfl : i = ds.length := by omega
  have l1 : decide ((ds.length : Int) < (ds.length : Int)) = false := by rw [decide_eq_false_iff_not]; omega
  rw [List.drop_length] at hse
  have e2 : sealE ds = 0 := hse
  have pbH := (old pa hpa).trans hb
  have o1 := bk_seal false true xs.length (xs ++ zs) ms
  have l9 : (1 < (bkC false xs.length (xs ++ zs) ms).length) = True := by rw [bk_len]; simp; omega
  have l8 : (2 ≤ (bkC false xs.length (xs ++ zs) ms).length) = True := by rw [bk_len]; simp; omega
  (have fct := Fj @el (Fj @e0 (Fj @t21 (Fj @t22 (Fj @e23 (Fj @l1 (Fj @pbH (Fj @o1 (Fj @l9 (Fj @l8 (Fj @op_nilchk @nilcV_ptr)))))))))); refine GOD ?_; clear fct)
  refine ⟨.inr rfl, .int .i64 0, by simp [resAll, resOne, el], ?_⟩
  have hst2 : ∀ cs : List AV, Fs.settle h (H.set pa (.cells cs false)) (.int .i64 0) = (.int .i64 0, (H.set pa (.cells cs false)).withLow (min h.low (min H.low pa))) := fun cs => by
   unfold Fs.settle
   rw [if_neg (fun hh => by have := hh.1; simp at this; omega)]
   rfl
  rw [hst2]
  refine ⟨by rw [e2], fun hh => absurd e2 hh, fun _ => Hp.get_set_self _ _ _, by simp; omega, fun b hb hne => ?_, fun N hN1 hN2 => by simp; omega⟩
  rw [Hp.get_withLow, Hp.get_set_ne _ _ _ _ hne, old b hb]
 case pos =>
 have l1 : decide ((i : Int) < (ds.length : Int)) = true := by rw [decide_eq_true_eq]; omega
 obtain ⟨x, hx⟩ : ∃ x, xs[i]? = some x := ⟨_, List.getElem?_eq_getElem (by omega)⟩
 obtain ⟨d, hd, hxc, hown, hprt⟩ := hA.ext hx
 have hL : (xs ++ zs)[i]? = some x := by rw [List.getElem?_append_left (by omega)]; exact hx
 obtain ⟨c2, c1⟩ := bk_at false xs.length ms hL
 have c1' : (3 + (i * 9 + 9) ≤ (bkC false xs.length (xs ++ zs) ms).length) = True := by simp; omega
 have a1 := fun (hh : AH) => iaddrV_nat (h := hh) (esz := 9) (b := pa) (o := 3) (c := .exact 64) (k := .i64) hlt
 have pbH := (old pa hpa).trans hb
 obtain ⟨xa, xcap, hsl⟩ := hown.slice
 have hdl := (hA.2 i x d hx hd).2.2
 have x8 : x.cells[8]? = some x.sl := rfl
 have lv : ∀ hh, lenV x.sl hh = some (.int .i64 (d.2.length : Int), hh) := fun hh => by rw [hsl]; rfl
 have y1 : (pa = H.n) = False := by simp; omega
 have o9 : Fs.over (zeroC.cells nilV) 0 x.cells = x.cells := rfl
 rw [firstZ_at hd] at hse
 (have fct := Fj @el (Fj @e0 (Fj @t21 (Fj @t22 (Fj @e23 (Fj @l1 (Fj @a1 (Fj @pbH (Fj @c1' (Fj @c2 (Fj @y1 (Fj @o9 (Fj @x8 (Fj @lv (Fj @cv_len (Fj @cv_one (Fj @cells_len (Fj @op_nilchk @nilcV_ptr))))))))))))))))); refine GOD ?_; clear fct)
 refine CodeK_loop (SiI h pa ds i x.sl d.2) d.2.length ?_ ?_
 · exact ⟨by simp only [List.length_set, el], by simp only [fsTm, Nat.reduceBEq, Nat.reduceLT, el, e0], by simp only [fsTm, Nat.reduceBEq, Nat.reduceLT, el, t21], by simp only [fsTm, Nat.reduceBEq, Nat.reduceLT, el, t22], by simp only [fsTm, Nat.reduceBEq, Nat.reduceLT, el, e23], by simp only [fsTm, Nat.reduceBEq, Nat.reduceLT, el], by simp only [fsTm, Nat.reduceBEq, Nat.reduceLT, el], by simp; omega, fun b hb => by rw [Hp.get_set_ne _ _ _ _ (by omega), Hp.get_push_ne _ _ _ (by omega)]; exact old b hb, by simp; omega, 0, rfl, by omega, by simp only [fsTm, Nat.reduceBEq, Nat.reduceLT, el]; rfl, rfl⟩
 clear el e0 t21 t22 e23 Hn old lo pbH y1 tm H
 intro n2 tm H I
 obtain ⟨j, hnj, hj, e30, hce⟩ := I.st
 have el := I.len
 have e0 := I.t0
 have t21 := I.t21
 have t22 := I.t22
 have e23 := I.t23
 have t28 := I.t28
 have t29 := I.t29
 have Hn := I.hn
 have old := I.old
 have lo := I.low
 clear I
 by_cases hltj : j < d.2.length
 case neg =>
  obtain rfl : j = d.2.length := by omega
  have l2 : decide ((d.2.length : Int) < (d.2.length : Int)) = false := by rw [decide_eq_false_iff_not]; omega
  rw [List.drop_length] at hce
  have hc0 : cardSE ds d = 0 := hce
  rw [if_neg (by simpa using hc0)] at hse
  have w1 : IntKind.wrap .i64 ((i : Int) + 1) = ((i + 1 : Nat) : Int) := by rw [wrap_i64 (by omega) (by omega)]; omega
  (have fct := Fj @el (Fj @e0 (Fj @t21 (Fj @t22 (Fj @e23 (Fj @t28 (Fj @t29 (Fj @e30 (Fj @l2 @w1)))))))); refine GOD ?_; clear fct)
  exact ⟨ds.length - (i + 1), by omega, by simp only [List.length_set, el], by simp only [fsTm, Nat.reduceBEq, Nat.reduceLT, el, e0], by simp only [fsTm, Nat.reduceBEq, Nat.reduceLT, el, t21], by simp only [fsTm, Nat.reduceBEq, Nat.reduceLT, el, t22], Hn, old, lo, i + 1, rfl, by omega, by simp only [fsTm, Nat.reduceBEq, Nat.reduceLT, el], hse⟩
 case pos =>
 have l2 : decide ((j : Int) < (d.2.length : Int)) = true := by rw [decide_eq_true_eq]; omega
 obtain ⟨p, hp⟩ : ∃ p, d.2[j]? = some p := ⟨_, List.getElem?_eq_getElem hltj⟩
 obtain ⟨b, o, cells, ro, c', ev, hbn, hg, hcut⟩ := parts_get hprt hp
 have hgH := (old b hbn).trans hg
 have pbH := (old pa hpa).trans hb
 have a2 := fun (hh : AH) => iaddrV_nat (h := hh) (esz := 8) (b := b) (o := o) (c := c') (k := .i64) hltj
 have hc1 : (o + (j * 8 + 8) ≤ cells.length) = True := by have := (cut_parts hcut).1; simp; omega
 have hc2 := (cut_parts hcut).2
 rw [ev] at t28
 have p1 : p.cells[1]? = some (.int .u8 p.b) := rfl
 have p7 : p.cells[7]? = some (.str p.s) := rfl
 have z8 : p.cells.length = 8 := rfl
 have z9 := one_cells p
 have o8 : Fs.over [AV.int .u8 0, AV.int .u8 0, AV.int .u8 0, AV.int .i64 0, AV.int .u8 0, AV.int .u8 0, AV.int .u8 0, AV.str []] 0 p.cells = p.cells := rfl
 have w2 : IntKind.wrap .i64 ((j : Int) + 1) = ((j + 1 : Nat) : Int) := by rw [wrap_i64 (by omega) (by omega)]; omega
 have y2 : (pa = H.n) = False := by simp; omega
 have y3 : (b = H.n) = False := by simp; omega
 rw [firstZ_at hp] at hce
 have pP := hP p.s ((H.push (.cells [AV.int .u8 0, AV.int .u8 0, AV.int .u8 0, AV.int .i64 0, AV.int .u8 0, AV.int .u8 0, AV.int .u8 0, AV.str []] false)).set H.n (.cells p.cells false)) (by rw [Hp.get_set_ne _ _ _ _ (by omega), Hp.get_push_ne _ _ _ (by omega)]; exact pbH)
 have rng := plc_range (nms ds) p.s 0
 have nl : (nms ds).length = ds.length := by unfold nms; rw [List.length_map]
 have step : callE ds p = 0 → ∀ tm2 : List AV, tm2.length = 58 → tm2.getD 0 AV.undef = .ptr (some (pa, 0)) → tm2.getD 21 AV.undef = .slice (some (pa, 3)) ds.length (.exact 64) → tm2.getD 22 AV.undef = .int .i64 (ds.length : Int) → tm2.getD 23 AV.undef = .int .i64 (i : Int) → tm2.getD 28 AV.undef = x.sl → tm2.getD 29 AV.undef = .int .i64 (d.2.length : Int) → tm2.getD 30 AV.undef = .int .i64 ((j + 1 : Nat) : Int) →
     ∃ m, m < n2 ∧ SiI h pa ds i x.sl d.2 m tm2 ((H.push (.cells [AV.int .u8 0, AV.int .u8 0, AV.int .u8 0, AV.int .i64 0, AV.int .u8 0, AV.int .u8 0, AV.int .u8 0, AV.str []] false)).set H.n (.cells p.cells false)) := fun hz tm2 a b' c d' e f g i' => by
  rw [if_neg (by simpa using hz)] at hce
  exact ⟨d.2.length - (j + 1), by omega, a, b', c, d', e, f, g, by simp; omega, fun b hb => by rw [Hp.get_set_ne _ _ _ _ (by omega), Hp.get_push_ne _ _ _ (by omega)]; exact old b hb, by simp; omega, j + 1, rfl, by omega, i', hce⟩
 have bad : ∀ e : Int, e ≠ 0 → callE ds p = e → sealE ds = e := fun e he hc => by
  have h1 : cardSE ds d = e := by
   unfold cardSE
   rw [hce, hc, if_pos he]
  rw [hse, h1, if_pos he]
 cases hv : (p.b != 7) with
 | true =>
   have hz : callE ds p = 0 := by unfold callE; rw [if_pos (by simpa using hv)]
   (have fct := Fj @el (Fj @e0 (Fj @t21 (Fj @t22 (Fj @e23 (Fj @t28 (Fj @t29 (Fj @e30 (Fj @l2 (Fj @a2 (Fj @hgH (Fj @hc1 (Fj @hc2 (Fj @p1 (Fj @p7 (Fj @z8 (Fj @z9 (Fj @o8 (Fj @y3 (Fj @hv @w2))))))))))))))))))); refine GOD ?_; clear fct)
   exact step hz _ (by simp only [List.length_set, el]) (by simp only [fsTm, Nat.reduceBEq, Nat.reduceLT, el, e0]) (by simp only [fsTm, Nat.reduceBEq, Nat.reduceLT, el, t21]) (by simp only [fsTm, Nat.reduceBEq, Nat.reduceLT, el, t22]) (by simp only [fsTm, Nat.reduceBEq, Nat.reduceLT, el, e23]) (by rw [ev]; simp only [fsTm, Nat.reduceBEq, Nat.reduceLT, el, t28]) (by simp only [fsTm, Nat.reduceBEq, Nat.reduceLT, el, t29]) (by simp only [fsTm, Nat.reduceBEq, Nat.reduceLT, el])
 | false =>
   have hv' : ¬ p.b ≠ 7 := by simpa using hv
   by_cases hq : plc (nms ds) p.s 0 < 0
   · have d1 : decide (plc (nms ds) p.s 0 < 0) = true := decide_eq_true hq
     have hz : callE ds p = 6 := by unfold callE; rw [if_neg hv', if_pos hq]
     (have fct := Fj @el (Fj @e0 (Fj @t21 (Fj @t22 (Fj @e23 (Fj @t28 (Fj @t29 (Fj @e30 (Fj @l2 (Fj @a2 (Fj @hgH (Fj @hc1 (Fj @hc2 (Fj @p1 (Fj @p7 (Fj @z8 (Fj @z9 (Fj @o8 (Fj @y3 (Fj @hv (Fj @pP @d1)))))))))))))))))))); refine GOD ?_; clear fct)
     exact ⟨.inr rfl, .int .i64 6, by simp [resAll, resOne, el], done 6 (bad 6 (by decide) hz) (by decide) _ (by simp; omega)⟩
   · have d1 : decide (plc (nms ds) p.s 0 < 0) = false := decide_eq_false hq
     obtain ⟨k, hk⟩ : ∃ k : Nat, plc (nms ds) p.s 0 = (k : Int) := ⟨(plc (nms ds) p.s 0).toNat, by omega⟩
     have hk1 : k < ds.length := by omega
     obtain ⟨y, hy⟩ : ∃ y, xs[k]? = some y := ⟨_, List.getElem?_eq_getElem (by omega)⟩
     obtain ⟨dy, hdy, hyc, _, _⟩ := hA.ext hy
     have hLy : (xs ++ zs)[k]? = some y := by rw [List.getElem?_append_left (by omega)]; exact hy
     have c3 : (bkC false xs.length (xs ++ zs) ms)[3 + (k * 9 + 2)]? = some (.int .u8 y.c.kind) := bk_cell false xs.length (j := 2) ms hLy (by decide)
     have a3 := fun (hh : AH) => iaddrA_nat (h := hh) (n := 64) (esz := 9) (b := pa) (o := 3) (k := .i64) (show k < 64 by omega)
     have hz : callE ds p = if (dy.1.kind == 2) = true then 8 else 0 := by
      unfold callE
      rw [if_neg hv', if_neg hq, hk, Int.toNat_natCast, hdy]
     rw [hk] at pP d1
     rw [hyc] at c3
     cases hkd : (dy.1.kind == 2) with
     | true =>
       rw [hkd, if_pos rfl] at hz
       (have fct := Fj @el (Fj @e0 (Fj @t21 (Fj @t22 (Fj @e23 (Fj @t28 (Fj @t29 (Fj @e30 (Fj @l2 (Fj @a2 (Fj @hgH (Fj @hc1 (Fj @hc2 (Fj @p1 (Fj @p7 (Fj @z8 (Fj @z9 (Fj @o8 (Fj @y2 (Fj @y3 (Fj @hv (Fj @pP (Fj @d1 (Fj @pbH (Fj @a3 (Fj @c3 (Fj @hkd (Fj @op_nilchk (Fj @nilcV_ptr @Ef.op_iaddrA)))))))))))))))))))))))))))); refine GOD ?_; clear fct)
       exact ⟨.inr rfl, .int .i64 8, by simp [resAll, resOne, el], done 8 (bad 8 (by decide) hz) (by decide) _ (by simp; omega)⟩
     | false =>
       rw [hkd, if_neg (by decide)] at hz
       (have fct := Fj @el (Fj @e0 (Fj @t21 (Fj @t22 (Fj @e23 (Fj @t28 (Fj @t29 (Fj @e30 (Fj @l2 (Fj @a2 (Fj @hgH (Fj @hc1 (Fj @hc2 (Fj @p1 (Fj @p7 (Fj @z8 (Fj @z9 (Fj @o8 (Fj @y2 (Fj @y3 (Fj @hv (Fj @pP (Fj @d1 (Fj @pbH (Fj @a3 (Fj @c3 (Fj @hkd (Fj @w2 (Fj @op_nilchk (Fj @nilcV_ptr @Ef.op_iaddrA))))))))))))))))))))))))))))); refine GOD ?_; clear fct)
       exact step hz _ (by simp only [List.length_set, el]) (by simp only [fsTm, Nat.reduceBEq, Nat.reduceLT, el, e0]) (by simp only [fsTm, Nat.reduceBEq, Nat.reduceLT, el, t21]) (by simp only [fsTm, Nat.reduceBEq, Nat.reduceLT, el, t22]) (by simp only [fsTm, Nat.reduceBEq, Nat.reduceLT, el, e23]) (by rw [ev]; simp only [fsTm, Nat.reduceBEq, Nat.reduceLT, el, t28]) (by simp only [fsTm, Nat.reduceBEq, Nat.reduceLT, el, t29]) (by simp only [fsTm, Nat.reduceBEq, Nat.reduceLT, el])
end Go.Proofs.Cards
