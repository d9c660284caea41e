/- The law EffectParses answers true of every input: by a symbolic walk over the abstract machine of the Fs texts, whose soundness is proved there; then its tied card. -/
import Derived.Test.YtjmhjipacmlojaaGreatDoorCards
import Derived.Test.YtjmhjipacmlojaaGreatDoorTie
import Derived.WalkKit
import Derived.ProofKit
import Derived.OpenShut
import Derived.Lay
import Derived.SevenTiedAt
import Derived.Test.YtjmhjipacmlojaaGreatDoorFz05
import Derived.Test.YtjmhjipacmlojaaGreatDoorFz04
import Derived.Test.YtjmhjipacmlojaaGreatDoorFz06
import Derived.Test.YtjmhjipacmlojaaGreatDoorFz06
import Derived.Test.YtjmhjipacmlojaaGreatDoorZcEfParsesW
import Derived.Test.YtjmhjipacmlojaaGreatDoorZcEfPaOrc
namespace Go.Proofs.YtjmhjipacmlojaaGreatDoor.effectParses
open Go.ChangeShapes Go.WideShapes Go.ChangeAt Go.RowKit
set_option linter.unusedVariables false

theorem own : ownKnob Tryz.prog.godebug = none := by kernel_rfl
theorem mixed : Tryz.prog.follows .mixedOrders = true := by kernel_rfl
theorem laidOut : laidOutB Tryz.prog = true := by kernel_rfl
noncomputable def h00 : Go.Fs.AH := (Go.Fs.absLaid Tryz.prog 40 Rows.effectParsesRow.laid (Go.Fs.start Tryz.prog.globals.size)).getD (Go.Fs.start Tryz.prog.globals.size)
theorem some00 : (Go.Fs.absLaid Tryz.prog 40 Rows.effectParsesRow.laid (Go.Fs.start Tryz.prog.globals.size)).isSome = true := by kernel_rfl
theorem e00 : Go.Fs.absLaid Tryz.prog 40 Rows.effectParsesRow.laid (Go.Fs.start Tryz.prog.globals.size) = some h00 := Go.Fs.some_getD some00
/-- The heap when the call begins. -/
noncomputable def hJ (m : Int) : Go.Fs.AH := h00.set 5 (.cells [.int .i64 m] true)
noncomputable def h0 (m : Int) (u1 u2 : TypeId) : Go.Fs.AH := ((hJ m).set 3 (.cells [.iface u1 (.junk true)] true)).set 4 (.cells [.iface u2 (.junk true)] true)
section
variable (m : Int) (u1 u2 : TypeId)
theorem ok0 (m : Int) : Go.Fs.heapOk Tryz.prog.globals.size (hJ m) = true := by kernel_rfl

/-! ### Closed runs -/
set_option maxRecDepth 100000 in
theorem lives0 : (Go.Fs.runQ suits.orcT (Go.Fs.tbl Tryz.prog) 300 22 [] (hJ m)).map Prod.fst = some (.bool true) := by kernel_rfl
set_option maxRecDepth 100000 in
theorem itoa0 : ((List.range 199).all fun i => Go.Fs.isStr (Go.Fs.runQ suits.orcT (Go.Fs.tbl Tryz.prog) 300 32 [.int .i64 ((i : Int) - 99)] (hJ m)) (Go.Proofs.Ef.dig ((i : Int) - 99))) = true := by kernel_rfl
set_option maxRecDepth 100000 in
theorem digits0 : ((List.range 199).all fun i => Go.Fs.isStr (Go.Fs.runQ suits.orcT (Go.Fs.tbl Tryz.prog) 300 90 [.int .i64 ((i : Int) - 99)] (hJ m)) (Go.Proofs.Ef.dig ((i : Int) - 99))) = true := by kernel_rfl
set_option maxRecDepth 100000 in
theorem suit0 : ((List.range 6).all fun i => Go.Fs.isStr (Go.Fs.runQ suits.orcT (Go.Fs.tbl Tryz.prog) 300 30 [.int .u8 ((i : Int) + 1)] (hJ m)) (Go.Proofs.Ef.sN ((i : Int) + 1))) = true := by kernel_rfl
set_option maxRecDepth 100000 in
theorem rsuit0 : ((List.range 6).all fun i => Go.Fs.isStr (Go.Fs.runQ suits.orcT (Go.Fs.tbl Tryz.prog) 300 38 [.int .u8 ((i : Int) + 1)] (hJ m)) (Go.Proofs.Ef.sN ((i : Int) + 1))) = true := by kernel_rfl
set_option maxRecDepth 100000 in
theorem trait0 : ((List.range 8).all fun i => Go.Fs.isStr (Go.Fs.runQ suits.orcT (Go.Fs.tbl Tryz.prog) 300 34 [.int .u8 ((i : Int) + 1)] (hJ m)) (Go.Proofs.Ef.tN ((i : Int) + 1))) = true := by kernel_rfl
set_option maxRecDepth 100000 in
theorem rtrait0 : ((List.range 8).all fun i => Go.Fs.isStr (Go.Fs.runQ suits.orcT (Go.Fs.tbl Tryz.prog) 300 41 [.int .u8 ((i : Int) + 1)] (hJ m)) (Go.Proofs.Ef.tN ((i : Int) + 1))) = true := by kernel_rfl

noncomputable abbrev orcV : Go.Fs.Orc := Go.Fs.orcOversI Tryz.prog suits.orcT (hJ m) 300 [22, 32, 90, 30, 38, 34, 41]
noncomputable abbrev orcK : Go.Fs.Orc := suits.orcSA (suits.orcFJ (orcV m))
theorem goodK : Go.Fs.GoodOrc Tryz.prog (orcK m) := suits.goodSA (suits.goodFJ (Go.Fs.good_orcOversI mixed suits.goodT (ok0 m) (by kernel_rfl)))
theorem noneK : ∀ f, f ∈ [4, 20, 52, 53, 57, 23, 51, 24, 54, 61, 62, 63, 64, 65, 66, 67, 68, 106, 107, 108, 21, 59, 58, 102, 103, 104, 105, 120, 42, 86, 87, 88, 89, 121, 91, 92, 93, 94, 95, 96, 46] → orcK m f = none := by
  intro f hf
  simp only [List.mem_cons, List.mem_nil_iff, or_false] at hf
  rcases hf with rfl | rfl | rfl | rfl | rfl | rfl | rfl | rfl | rfl | rfl | rfl | rfl | rfl | rfl | rfl | rfl | rfl | rfl | rfl | rfl | rfl | rfl | rfl | rfl | rfl | rfl | rfl | rfl | rfl | rfl | rfl | rfl | rfl | rfl | rfl | rfl | rfl | rfl | rfl | rfl | rfl <;> kernel_rfl
theorem junk1 : (hJ m).get 3 = some (.cells [.junk true] true) := by kernel_rfl
theorem junk2 : (hJ m).get 4 = some (.cells [.junk true] true) := by kernel_rfl
theorem grow0 : Go.Fs.GrownI (hJ m) (h0 m u1 u2) :=
  ((Go.Fs.GrownI.refl (hJ m)).set (junk1 m) (junk1 m)).set (by rw [Go.Fs.Hp.get_set_ne _ _ _ _ (by decide)]; exact junk2 m) (junk2 m) |> fun x => x
theorem trimsK : Go.Proofs.Ef.Trims (orcK m) := fun a h hl => by
  refine Go.Fs.acall_orc (s := suits.tellTrim) (by kernel_rfl) ?_
  unfold suits.tellTrim
  simp only
  rw [if_pos ⟨by omega, by decide, by decide⟩]
theorem tab0 : Go.Fs.readCells (h0 m u1 u2) 1 0 256 = some suits.tabA := by kernel_rfl
theorem lt0 : Nat.ble 12 (h0 m u1 u2).n = true := by kernel_rfl
theorem cell0 : Go.Fs.readCell (h0 m u1 u2) 5 0 = some (.int .i64 m) := by kernel_rfl
theorem cell1 : Go.Fs.readCell (h0 m u1 u2) 3 0 = some (.iface u1 (.junk true)) := by kernel_rfl
theorem cell2 : Go.Fs.readCell (h0 m u1 u2) 4 0 = some (.iface u2 (.junk true)) := by kernel_rfl
theorem read_grown {h1 h : Go.Fs.AH} (hg : Go.Fs.Grown h1 h) {b o : Nat} {v : Go.Fs.AV} (hb : b < h1.n) (hr : Go.Fs.readCell h1 b o = some v) : Go.Fs.readCell h b o = some v := by
  unfold Go.Fs.readCell at hr ⊢
  rw [hg.2 b hb]; exact hr
theorem n0 : 12 ≤ (h0 m u1 u2).n := Nat.le_of_ble_eq_true (lt0 m u1 u2)
theorem fldsK : Go.Proofs.Ef.Flds (orcK m) (h0 m u1 u2) := fun a ws h hg hl ha hf => by
  refine Go.Fs.acall_orc (s := suits.tellFields) (by kernel_rfl) ?_
  have ht : Go.Fs.readCells h 1 0 256 = some suits.tabA := by
    have := tab0 m u1 u2
    unfold Go.Fs.readCells at this ⊢
    rw [hg.2 1 (by have := n0 m u1 u2; omega)]
    exact this
  unfold suits.tellFields
  simp only
  rw [if_pos ⟨hl, ha, ht⟩, hf]
theorem joinsK : Go.Proofs.Ef.Joins (orcK m) := fun L b cap ro h hg hne hcap hl hj => by
  refine Go.Fs.acall_orc (s := suits.tellJoin) (by kernel_rfl) ?_
  have hx : ∃ (L' : List (List UInt8)) (ro : Bool), h.get b = some (.cells (L'.map Go.Fs.AV.str) ro) ∧ L'.length = L.length ∧ L' ≠ [] ∧ (cap = .opn 1 ∨ cap = .exact L.length) ∧ L'.length ≤ 1000 ∧ (Lib.join L' [32]).length ≤ 100000 := ⟨L, ro, hg, rfl, hne, hcap, hl, hj⟩
  unfold suits.tellJoin
  simp only
  rw [dif_pos hx]
  obtain ⟨ro', k1, _⟩ := hx.choose_spec
  have k1' := hg.symm.trans k1
  have k2 : L.map Go.Fs.AV.str = hx.choose.map Go.Fs.AV.str := by injection k1' with k1'; injection k1'
  rw [← suits.map_str_inj k2]
theorem num_of {P : Int → Prop} {c : Int} (h : ∀ i : Nat, i ∈ List.range 199 → P ((i : Int) - 99)) (h1 : -99 ≤ c) (h2 : c ≤ 99) : P c := by
  have := h (c + 99).toNat (by rw [List.mem_range]; omega)
  rwa [show (((c + 99).toNat : Nat) : Int) - 99 = c by omega] at this
theorem one_of {P : Int → Prop} {n : Nat} {c : Int} (h : ∀ i : Nat, i ∈ List.range n → P ((i : Int) + 1)) (h1 : 1 ≤ c) (h2 : c ≤ (n : Int)) : P c := by
  have := h (c - 1).toNat (by rw [List.mem_range]; omega)
  rwa [show (((c - 1).toNat : Nat) : Int) + 1 = c by omega] at this
theorem toldK : Go.Proofs.Ef.Told (orcK m) (h0 m u1 u2) where
  itoa := fun c h hg h1 h2 => Go.Fs.acall_oversI (orc := suits.orcT) (h0 := hJ m) (n := 300) (gs := [22, 32, 90, 30, 38, 34, 41]) (by kernel_rfl) (by kernel_rfl) (num_of (P := fun c => (Go.Fs.runQ suits.orcT (Go.Fs.tbl Tryz.prog) 300 32 [.int .i64 c] (hJ m)).map Prod.fst = some (.str (Go.Proofs.Ef.dig c))) (fun i hi => Go.Fs.isStr_eq (List.all_eq_true.1 (itoa0 m) i hi)) h1 h2) rfl rfl ((grow0 m u1 u2).of hg)
  digits := fun c h hg h1 h2 => Go.Fs.acall_oversI (orc := suits.orcT) (h0 := hJ m) (n := 300) (gs := [22, 32, 90, 30, 38, 34, 41]) (by kernel_rfl) (by kernel_rfl) (num_of (P := fun c => (Go.Fs.runQ suits.orcT (Go.Fs.tbl Tryz.prog) 300 90 [.int .i64 c] (hJ m)).map Prod.fst = some (.str (Go.Proofs.Ef.dig c))) (fun i hi => Go.Fs.isStr_eq (List.all_eq_true.1 (digits0 m) i hi)) h1 h2) rfl rfl ((grow0 m u1 u2).of hg)
  suit := fun c h hg h1 h2 => Go.Fs.acall_oversI (orc := suits.orcT) (h0 := hJ m) (n := 300) (gs := [22, 32, 90, 30, 38, 34, 41]) (by kernel_rfl) (by kernel_rfl) (one_of (n := 6) (P := fun c => (Go.Fs.runQ suits.orcT (Go.Fs.tbl Tryz.prog) 300 30 [.int .u8 c] (hJ m)).map Prod.fst = some (.str (Go.Proofs.Ef.sN c))) (fun i hi => Go.Fs.isStr_eq (List.all_eq_true.1 (suit0 m) i hi)) h1 h2) rfl rfl ((grow0 m u1 u2).of hg)
  rsuit := fun c h hg h1 h2 => Go.Fs.acall_oversI (orc := suits.orcT) (h0 := hJ m) (n := 300) (gs := [22, 32, 90, 30, 38, 34, 41]) (by kernel_rfl) (by kernel_rfl) (one_of (n := 6) (P := fun c => (Go.Fs.runQ suits.orcT (Go.Fs.tbl Tryz.prog) 300 38 [.int .u8 c] (hJ m)).map Prod.fst = some (.str (Go.Proofs.Ef.sN c))) (fun i hi => Go.Fs.isStr_eq (List.all_eq_true.1 (rsuit0 m) i hi)) h1 h2) rfl rfl ((grow0 m u1 u2).of hg)
  trait := fun c h hg h1 h2 => Go.Fs.acall_oversI (orc := suits.orcT) (h0 := hJ m) (n := 300) (gs := [22, 32, 90, 30, 38, 34, 41]) (by kernel_rfl) (by kernel_rfl) (one_of (n := 8) (P := fun c => (Go.Fs.runQ suits.orcT (Go.Fs.tbl Tryz.prog) 300 34 [.int .u8 c] (hJ m)).map Prod.fst = some (.str (Go.Proofs.Ef.tN c))) (fun i hi => Go.Fs.isStr_eq (List.all_eq_true.1 (trait0 m) i hi)) h1 h2) rfl rfl ((grow0 m u1 u2).of hg)
  rtrait := fun c h hg h1 h2 => Go.Fs.acall_oversI (orc := suits.orcT) (h0 := hJ m) (n := 300) (gs := [22, 32, 90, 30, 38, 34, 41]) (by kernel_rfl) (by kernel_rfl) (one_of (n := 8) (P := fun c => (Go.Fs.runQ suits.orcT (Go.Fs.tbl Tryz.prog) 300 41 [.int .u8 c] (hJ m)).map Prod.fst = some (.str (Go.Proofs.Ef.tN c))) (fun i hi => Go.Fs.isStr_eq (List.all_eq_true.1 (rtrait0 m) i hi)) h1 h2) rfl rfl ((grow0 m u1 u2).of hg)
theorem ptoldK : Go.Proofs.Ef.PTold (orcK m) (h0 m u1 u2) (fun s => Lib.split s [32]) suits.atoiV suits.answer where
  split := fun s h hg hl => by
    refine Go.Fs.acall_orc (s := suits.tellSplit) (by kernel_rfl) ?_
    unfold suits.tellSplit
    simp only
    rw [if_pos ⟨by omega, by simp, m, read_grown hg (Nat.lt_of_lt_of_le (by decide) (n0 m u1 u2)) (cell0 m u1 u2)⟩]
  len := fun s hl => ⟨by have := (Go.Fs.Plain.split_len s).1; omega, fun x hx => by have := (Go.Fs.Plain.split_len s).2 x hx; omega⟩
  atoi := fun s h hg hl => by
    refine Go.Fs.acall_orc (s := suits.tellAtoi) (by kernel_rfl) ?_
    unfold suits.tellAtoi
    simp only
    rw [if_pos ⟨by omega, ⟨_, _, read_grown hg (Nat.lt_of_lt_of_le (by decide) (n0 m u1 u2)) (cell1 m u1 u2)⟩, ⟨_, _, read_grown hg (Nat.lt_of_lt_of_le (by decide) (n0 m u1 u2)) (cell2 m u1 u2)⟩⟩]
  suit := fun s h => Go.Fs.acall_orc (s := suits.tellOf) (by kernel_rfl) rfl
end
theorem rtoldK : Go.Proofs.Ef.RTold suits.atoiV suits.answer where
  num := fun c h1 h2 => by
    have := Go.Proofs.Ef.num_all (p := fun c => decide (suits.atoiV (Go.Proofs.Ef.dig c) = c)) (by decide +kernel) h1 h2
    simpa using this
  none := by decide +kernel
  suit := fun s h1 h2 => one_of (n := 6) (P := fun s => (suits.answer (Go.Proofs.Ef.sN s)).1 = s) (by decide +kernel) h1 h2
  nosuit := by decide +kernel
theorem piecesK (W : List (List UInt8)) (h1 : W ≠ []) (h2 : W.all Go.Proofs.Ef.noB = true) : (fun s => Lib.split s [32]) (Lib.join W [32]) = W :=
  Go.Fs.Plain.split_join h1 fun x hx => Go.Proofs.Ef.noB_out (List.all_eq_true.1 h2 x hx)

/-! ### What is handed in -/
def partD {H : Type} (w v m c s t k : Int) (nm : List UInt8) : DataW H := .agg [.lit (.int .u8 w), .lit (.int .u8 v), .lit (.int .u8 m), .lit (.int .i64 c), .lit (.int .u8 s), .lit (.int .u8 t), .lit (.int .u8 k), .lit (.string nm)]
theorem absd_part {H : Type} (w v m c s t k : Int) (nm : List UInt8) (h : Go.Fs.AH) : Go.Fs.absArg (H := H) Tryz.prog (fun _ => false) 4 48 (partD w v m c s t k nm) h = some (.agg (Go.Proofs.Ef.part w v m c s t k nm), h) := by kernel_rfl
theorem part_shape {H : Type} {enc : TypeId × Value → H} {W : World} {fuel : Nat} {cs : List Value} {d : DataW H} {ps : List MemPlace} (h : DataW.trod enc Tryz.prog W 0 (fun _ => true) true fuel 48 cs = some (d, ps)) :
    ∃ w v m c s t k nm, d = partD w v m c s t k nm ∧ (0 ≤ s ∧ s ≤ 255) ∧ (0 ≤ t ∧ t ≤ 255) ∧ (0 ≤ k ∧ k ≤ 255) := by
  obtain ⟨f, xs, rfl, hx⟩ := Go.Fs.trod_struct Tryz.underlying48 h
  simp only [List.mapM_cons, List.mapM_nil, Option.bind_eq_bind, Option.bind_eq_some_iff, Option.pure_def, Option.some.injEq] at hx
  obtain ⟨x1, h1, _, ⟨x2, h2, _, ⟨x3, h3, _, ⟨x4, h4, _, ⟨x5, h5, _, ⟨x6, h6, _, ⟨x7, h7, _, ⟨x8, h8, _, rfl, rfl⟩, rfl⟩, rfl⟩, rfl⟩, rfl⟩, rfl⟩, rfl⟩, rfl⟩ := hx
  obtain ⟨n1, e1, _⟩ := Go.Fs.trod_int (d := x1.1) (ps := x1.2) Tryz.underlying42 h1
  obtain ⟨n2, e2, _⟩ := Go.Fs.trod_int (d := x2.1) (ps := x2.2) Tryz.underlying43 h2
  obtain ⟨n3, e3, _⟩ := Go.Fs.trod_int (d := x3.1) (ps := x3.2) Tryz.underlying44 h3
  obtain ⟨n4, e4, _⟩ := Go.Fs.trod_int (d := x4.1) (ps := x4.2) Tryz.underlying3 h4
  obtain ⟨n5, e5, r5⟩ := Go.Fs.trod_int (d := x5.1) (ps := x5.2) Tryz.underlying22 h5
  obtain ⟨n6, e6, r6⟩ := Go.Fs.trod_int (d := x6.1) (ps := x6.2) Tryz.underlying45 h6
  obtain ⟨n7, e7, r7⟩ := Go.Fs.trod_int (d := x7.1) (ps := x7.2) Tryz.underlying46 h7
  obtain ⟨n8, e8, _⟩ := Go.Fs.trod_string (d := x8.1) (ps := x8.2) Tryz.underlying9 h8
  exact ⟨n1, n2, n3, n4, n5, n6, n7, n8, by simp [partD, e1, e2, e3, e4, e5, e6, e7, e8], r5, r6, r7⟩

set_option maxRecDepth 100000 in
theorem lifted (os : Os) (started : os.Started) (H : Type) (enc : TypeId × Value → H) :
    ReturnsInHanded {} Tryz.checked os 4 .any (fun w args => (Rows.effectParsesSpec.pre enc Tryz.prog Tryz.f4 [] false w args ∧ laidMetH Tryz.prog Rows.effectParsesRow.laid w) ∧ sizedMet enc Tryz.prog Tryz.f4 (OpenSpec.ofChange Rows.effectParsesSpec) false w args)
      (Rows.effectParsesSpec.post enc Tryz.prog Tryz.f4 false true false false) := by
  refine Go.Fs.returns_args (C := Tryz.checked) (X := fun w => laidMetH Tryz.prog Rows.effectParsesRow.laid w) (fun _ _ hh h => h.of_heap hh) own started (by kernel_rfl) Tryz.func4
    (ChangeSpec.witness_shaped (enc := enc) (C := Tryz.checked) (os := os) (X := fun w _ => laidMetH Tryz.prog Rows.effectParsesRow.laid w) false (World.laidAll Tryz.prog os Rows.effectParsesRow.laid) #[.string ⟨#[]⟩] 8 (World.laidAll_os _ _ _)
      (World.shaped_of_ZipB (by kernel_rfl) (by kernel_rfl)) (by kernel_rfl) (by kernel_rfl) (by kernel_rfl)
      (by rw [MakeChecks.laidMetH_plain _ _ _ (by kernel_rfl)]; exact laidMet_laidAll _ (by kernel_rfl) (by kernel_rfl))) ?_
  intro W base args ds gs before hval hW hL hsh hsz
  have hL2 : laidMet Tryz.prog Rows.effectParsesRow.laid W := by
    have h := hL
    rw [MakeChecks.laidMetH_plain _ _ _ (by kernel_rfl)] at h
    exact h
  obtain ⟨m, hm⟩ := Tryz.laysIndex.s1_3 W hsh
  obtain ⟨u1, v1', hc1, hj1⟩ := Go.Fs.laid_ifaceP (P := Tryz.prog) (n := "strconv.ErrSyntax") (g := 3) (t := 81) (d := Rows.laid_strconv_ErrSyntax) (by kernel_rfl) (by kernel_rfl) Tryz.underlying81 hL2 rfl (by simp [Rows.effectParsesRow])
  obtain ⟨u2, v2', hc2, hj2⟩ := Go.Fs.laid_ifaceP (P := Tryz.prog) (n := "strconv.ErrRange") (g := 4) (t := 81) (d := Rows.laid_strconv_ErrRange) (by kernel_rfl) (by kernel_rfl) Tryz.underlying81 hL2 rfl (by simp [Rows.effectParsesRow])
  have hW' := hW
  obtain ⟨p, q, hA, hV, he, _, _⟩ := hW'
  have hA' := hA
  rw [show Tryz.f4.params.toList = [9] by rw [Tryz.params4]] at hA'
  obtain ⟨v1, d1, _, rfl, h1⟩ := trodAll_one hA'
  obtain ⟨fu1, h1⟩ := h1
  obtain ⟨bs, rfl, _⟩ := Go.Fs.trod_string Tryz.underlying9 h1
  have ha : Go.Fs.absArgs Tryz.prog (fun _ => false) 4 Tryz.f4.params.toList [(.lit (.string bs) : DataW H)] (h0 m u1 u2) = some ([.str bs], h0 m u1 u2) := by
    rw [show Tryz.f4.params.toList = [9] by rw [Tryz.params4]]
    simp only [Go.Fs.absArgs, Go.Fs.absArg_str (fuel := 3) Tryz.underlying9, Option.bind_some, Option.map_some]
  have hr := Go.Proofs.Ef.parses_spec (orc := orcK m) (noneK m) (trimsK m) (fldsK m u1 u2) (joinsK m) (toldK m u1 u2) (ptoldK m u1 u2) rtoldK piecesK
    (fun h hg => Go.Fs.acall_oversI (orc := suits.orcT) (h0 := hJ m) (n := 300) (gs := [22, 32, 90, 30, 38, 34, 41]) (by kernel_rfl) (by kernel_rfl) (lives0 m) rfl rfl ((grow0 m u1 u2).of hg)) bs (Go.Fs.Grown.refl (h0 m u1 u2))
  refine (Go.Fs.law_laids mixed (by kernel_rfl) hA (fun j t v hj hv => hval j t v (by simpa using hj) (by simpa using hv)) e00 hL2 (g := 5) (g1 := 3) (g2 := 4) (of_decide_eq_true (by kernel_rfl)) (of_decide_eq_true (by kernel_rfl)) (of_decide_eq_true (by kernel_rfl)) hm hc1 hc2 hj1 hj2 (goodK m) ha hr).mono fun e W' ⟨he, hB⟩ => ?_
  exact ⟨_, he, Go.Fs.law_post (tb := 4) laidOut (by kernel_rfl) rfl Tryz.underlying4 rfl rfl hW hB⟩

theorem over : Rows.effectParsesRow.holds Tryz.pinned (OpenSpec.ofChange Rows.effectParsesSpec) :=
  OpenClaim.holds_of_wide 4 Tryz.f4 rfl rfl rfl rfl rfl rfl rfl ⟨rfl, rfl, rfl, rfl, rfl⟩ rfl rfl rfl rfl rfl (by kernel_rfl) Tryz.func4 (by kernel_rfl)
    (of_decide_eq_true (by kernel_rfl)) (by unfold Func.isWrapper; first | (rw [if_pos (by decide +kernel)]; kernel_rfl) | (rw [if_neg (by decide +kernel)]; exact ⟨rfl, rfl⟩))
    (fun os started H enc _ => lifted os started H enc)

/-- The statement. -/
theorem proved : Rows.EffectParsesCardSaid :=
  Claim7.holds_tied_plain_at .later [] [.data, .data, .data, .data, .sentinel, .sentinel, .listed, .data, .data, .pinned] true (true, "bb313f931166b14406d38b30da0f257e5516a753adf6c7dd900d5eae366e9100") true over (fun _ h => by cases h) (by kernel_rfl) (fun _ h => by cases h) effectParses_row_tie rfl ⟨rfl, rfl⟩ (by kernel_rfl) rfl
    (fun g fn hf hfn => by
      obtain rfl : g = 4 := Option.some.inj ((show Tryz.prog.funcNamed "gambit/gambitlaw05.EffectParses" = some 4 by kernel_rfl).symm.trans hf) |>.symm
      obtain rfl : fn = Tryz.f4 := (Option.some.inj (Tryz.func4.symm.trans hfn)).symm
      exact ⟨by kernel_rfl, fun j t ht => by
        rw [Tryz.params4] at ht
        match j with
        | 0 =>
          have e : (9 : TypeId) = t := Option.some.inj ht
          rw [← e]
          show Tryz.prog.wantsStandIn 9 = false
          kernel_rfl
        | j + 1 => simp at ht⟩)
    (by kernel_rfl)
#print axioms proved
end Go.Proofs.YtjmhjipacmlojaaGreatDoor.effectParses
