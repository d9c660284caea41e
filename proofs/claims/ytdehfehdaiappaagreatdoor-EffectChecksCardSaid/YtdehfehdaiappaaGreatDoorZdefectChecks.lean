/- The law EffectChecks answers true of every two parts: by a symbolic walk over the abstract machine of the Fs texts, whose soundness is proved there; then its tied card. -/
import Derived.Test.YtdehfehdaiappaaGreatDoorCards
import Derived.Test.YtdehfehdaiappaaGreatDoorTie
import Derived.WalkKit
import Derived.ProofKit
import Derived.OpenShut
import Derived.Lay
import Derived.SevenTiedAt
import Derived.Test.YtdehfehdaiappaaGreatDoorFsArgs
import Derived.Test.YtdehfehdaiappaaGreatDoorFsShape
import Derived.Test.YtdehfehdaiappaaGreatDoorFsOvers
import Derived.Test.YtdehfehdaiappaaGreatDoorZdEfLawK
import Derived.Test.YtdehfehdaiappaaGreatDoorZdEfPrOrc
namespace Go.Proofs.YtdehfehdaiappaaGreatDoor.effectChecks
open Go.ChangeShapes Go.WideShapes Go.ChangeAt Go.RowKit
set_option linter.unusedVariables false

theorem own : ownKnob Tryz.prog.godebug = none := by kernel_rfl
theorem mixed : Tryz.prog.follows .mixedOrders = true := by kernel_rfl
theorem laidOut : laidOutB Tryz.prog = true := by kernel_rfl
noncomputable def h00 : Go.Fs.AH := (Go.Fs.absLaid Tryz.prog 40 Rows.effectChecksRow.laid (Go.Fs.start Tryz.prog.globals.size)).getD (Go.Fs.start Tryz.prog.globals.size)
theorem some00 : (Go.Fs.absLaid Tryz.prog 40 Rows.effectChecksRow.laid (Go.Fs.start Tryz.prog.globals.size)).isSome = true := by kernel_rfl
theorem e00 : Go.Fs.absLaid Tryz.prog 40 Rows.effectChecksRow.laid (Go.Fs.start Tryz.prog.globals.size) = some h00 := Go.Fs.some_getD some00
/-- The heap when the call begins. -/
noncomputable def h0 (m : Int) : Go.Fs.AH := h00.set 3 (.cells [.int .i64 m] true)
theorem ok0 (m : Int) : Go.Fs.heapOk Tryz.prog.globals.size (h0 m) = true := by kernel_rfl

/-! ### Closed runs -/
set_option maxRecDepth 100000 in
theorem lives0 (m : Int) : (Go.Fs.runQ suits.orcT (Go.Fs.tbl Tryz.prog) 300 10 [] (h0 m)).map Prod.fst = some (.bool true) := by kernel_rfl
set_option maxRecDepth 100000 in
theorem itoa0 (m : Int) : ((List.range 199).all fun i => Go.Fs.isStr (Go.Fs.runQ suits.orcT (Go.Fs.tbl Tryz.prog) 300 30 [.int .i64 ((i : Int) - 99)] (h0 m)) (Go.Proofs.Ef.dig ((i : Int) - 99))) = true := by kernel_rfl
set_option maxRecDepth 100000 in
theorem digits0 (m : Int) : ((List.range 199).all fun i => Go.Fs.isStr (Go.Fs.runQ suits.orcT (Go.Fs.tbl Tryz.prog) 300 37 [.int .i64 ((i : Int) - 99)] (h0 m)) (Go.Proofs.Ef.dig ((i : Int) - 99))) = true := by kernel_rfl
set_option maxRecDepth 100000 in
theorem suit0 (m : Int) : ((List.range 6).all fun i => Go.Fs.isStr (Go.Fs.runQ suits.orcT (Go.Fs.tbl Tryz.prog) 300 31 [.int .u8 ((i : Int) + 1)] (h0 m)) (Go.Proofs.Ef.sN ((i : Int) + 1))) = true := by kernel_rfl
set_option maxRecDepth 100000 in
theorem rsuit0 (m : Int) : ((List.range 6).all fun i => Go.Fs.isStr (Go.Fs.runQ suits.orcT (Go.Fs.tbl Tryz.prog) 300 38 [.int .u8 ((i : Int) + 1)] (h0 m)) (Go.Proofs.Ef.sN ((i : Int) + 1))) = true := by kernel_rfl
set_option maxRecDepth 100000 in
theorem trait0 (m : Int) : ((List.range 8).all fun i => Go.Fs.isStr (Go.Fs.runQ suits.orcT (Go.Fs.tbl Tryz.prog) 300 32 [.int .u8 ((i : Int) + 1)] (h0 m)) (Go.Proofs.Ef.tN ((i : Int) + 1))) = true := by kernel_rfl
set_option maxRecDepth 100000 in
theorem rtrait0 (m : Int) : ((List.range 8).all fun i => Go.Fs.isStr (Go.Fs.runQ suits.orcT (Go.Fs.tbl Tryz.prog) 300 39 [.int .u8 ((i : Int) + 1)] (h0 m)) (Go.Proofs.Ef.tN ((i : Int) + 1))) = true := by kernel_rfl

noncomputable abbrev orcV (m : Int) : Go.Fs.Orc := Go.Fs.orcOvers Tryz.prog suits.orcT (h0 m) 300 [10, 30, 37, 31, 38, 32, 39]
noncomputable abbrev orcK (m : Int) : Go.Fs.Orc := suits.orcFJ (orcV m)
theorem goodK (m : Int) : Go.Fs.GoodOrc Tryz.prog (orcK m) := suits.goodFJ (Go.Fs.good_orcOvers mixed suits.goodT (ok0 m) (by kernel_rfl))
theorem noneK (m : Int) : ∀ f, f ∈ [5, 29, 12, 13, 34, 35, 36, 11, 28, 48, 49, 50, 51, 52, 53, 15, 16, 17, 18, 19, 14, 8, 40, 41, 42, 43, 44, 45, 46, 47, 76, 77, 78] → orcK m f = none := by
  intro f hf
  simp only [List.mem_cons, List.mem_nil_iff, or_false] at hf
  rcases hf with rfl | rfl | rfl | rfl | rfl | rfl | rfl | rfl | rfl | rfl | rfl | rfl | rfl | rfl | rfl | rfl | rfl | rfl | rfl | rfl | rfl | rfl | rfl | rfl | rfl | rfl | rfl | rfl | rfl | rfl | rfl | rfl | rfl <;> kernel_rfl
theorem trimsK (m : Int) : Go.Proofs.Ef.Trims (orcK m) := fun a h hl => by
  refine Go.Fs.acall_orc (s := suits.tellTrim) (by kernel_rfl) ?_
  unfold suits.tellTrim
  simp only
  rw [if_pos ⟨by omega, by decide, by decide⟩]
theorem tab0 (m : Int) : Go.Fs.readCells (h0 m) 1 0 256 = some suits.tabA := by kernel_rfl
theorem lt0 (m : Int) : Nat.blt 1 (h0 m).n = true := by kernel_rfl
theorem fldsK (m : Int) : Go.Proofs.Ef.Flds (orcK m) (h0 m) := fun a ws h hg hl ha hf => by
  refine Go.Fs.acall_orc (s := suits.tellFields) (by kernel_rfl) ?_
  have ht : Go.Fs.readCells h 1 0 256 = some suits.tabA := by
    have := tab0 m
    unfold Go.Fs.readCells at this ⊢
    rw [hg.2 1 (by have := lt0 m; simpa [Nat.blt_eq] using this)]
    exact this
  unfold suits.tellFields
  simp only
  rw [if_pos ⟨hl, ha, ht⟩, hf]
theorem joinsK (m : Int) : Go.Proofs.Ef.Joins (orcK m) := fun L b cap ro h hg hne hcap hl hj => by
  refine Go.Fs.acall_orc (s := suits.tellJoin) (by kernel_rfl) ?_
  have hx : ∃ (L' : List (List UInt8)) (ro : Bool), h.get b = some (.cells (L'.map Go.Fs.AV.str) ro) ∧ L'.length = L.length ∧ L' ≠ [] ∧ (cap = .opn 1 ∨ cap = .exact L.length) ∧ L'.length ≤ 1000 ∧ (Lib.join L' [32]).length ≤ 100000 := ⟨L, ro, hg, rfl, hne, hcap, hl, hj⟩
  unfold suits.tellJoin
  simp only
  rw [dif_pos hx]
  obtain ⟨ro', k1, _⟩ := hx.choose_spec
  have k1' := hg.symm.trans k1
  have k2 : L.map Go.Fs.AV.str = hx.choose.map Go.Fs.AV.str := by injection k1' with k1'; injection k1'
  rw [← suits.map_str_inj k2]
theorem num_of {P : Int → Prop} {c : Int} (h : ∀ i : Nat, i ∈ List.range 199 → P ((i : Int) - 99)) (h1 : -99 ≤ c) (h2 : c ≤ 99) : P c := by
  have := h (c + 99).toNat (by rw [List.mem_range]; omega)
  rwa [show (((c + 99).toNat : Nat) : Int) - 99 = c by omega] at this
theorem one_of {P : Int → Prop} {n : Nat} {c : Int} (h : ∀ i : Nat, i ∈ List.range n → P ((i : Int) + 1)) (h1 : 1 ≤ c) (h2 : c ≤ (n : Int)) : P c := by
  have := h (c - 1).toNat (by rw [List.mem_range]; omega)
  rwa [show (((c - 1).toNat : Nat) : Int) + 1 = c by omega] at this
theorem toldK (m : Int) : Go.Proofs.Ef.Told (orcK m) (h0 m) where
  itoa := fun c h hg h1 h2 => Go.Fs.acall_overs (orc := suits.orcT) (n := 300) (by kernel_rfl) (num_of (P := fun c => (Go.Fs.runQ suits.orcT (Go.Fs.tbl Tryz.prog) 300 30 [.int .i64 c] (h0 m)).map Prod.fst = some (.str (Go.Proofs.Ef.dig c))) (fun i hi => Go.Fs.isStr_eq (List.all_eq_true.1 (itoa0 m) i hi)) h1 h2) rfl rfl hg
  digits := fun c h hg h1 h2 => Go.Fs.acall_overs (orc := suits.orcT) (n := 300) (by kernel_rfl) (num_of (P := fun c => (Go.Fs.runQ suits.orcT (Go.Fs.tbl Tryz.prog) 300 37 [.int .i64 c] (h0 m)).map Prod.fst = some (.str (Go.Proofs.Ef.dig c))) (fun i hi => Go.Fs.isStr_eq (List.all_eq_true.1 (digits0 m) i hi)) h1 h2) rfl rfl hg
  suit := fun c h hg h1 h2 => Go.Fs.acall_overs (orc := suits.orcT) (n := 300) (by kernel_rfl) (one_of (n := 6) (P := fun c => (Go.Fs.runQ suits.orcT (Go.Fs.tbl Tryz.prog) 300 31 [.int .u8 c] (h0 m)).map Prod.fst = some (.str (Go.Proofs.Ef.sN c))) (fun i hi => Go.Fs.isStr_eq (List.all_eq_true.1 (suit0 m) i hi)) h1 h2) rfl rfl hg
  rsuit := fun c h hg h1 h2 => Go.Fs.acall_overs (orc := suits.orcT) (n := 300) (by kernel_rfl) (one_of (n := 6) (P := fun c => (Go.Fs.runQ suits.orcT (Go.Fs.tbl Tryz.prog) 300 38 [.int .u8 c] (h0 m)).map Prod.fst = some (.str (Go.Proofs.Ef.sN c))) (fun i hi => Go.Fs.isStr_eq (List.all_eq_true.1 (rsuit0 m) i hi)) h1 h2) rfl rfl hg
  trait := fun c h hg h1 h2 => Go.Fs.acall_overs (orc := suits.orcT) (n := 300) (by kernel_rfl) (one_of (n := 8) (P := fun c => (Go.Fs.runQ suits.orcT (Go.Fs.tbl Tryz.prog) 300 32 [.int .u8 c] (h0 m)).map Prod.fst = some (.str (Go.Proofs.Ef.tN c))) (fun i hi => Go.Fs.isStr_eq (List.all_eq_true.1 (trait0 m) i hi)) h1 h2) rfl rfl hg
  rtrait := fun c h hg h1 h2 => Go.Fs.acall_overs (orc := suits.orcT) (n := 300) (by kernel_rfl) (one_of (n := 8) (P := fun c => (Go.Fs.runQ suits.orcT (Go.Fs.tbl Tryz.prog) 300 39 [.int .u8 c] (h0 m)).map Prod.fst = some (.str (Go.Proofs.Ef.tN c))) (fun i hi => Go.Fs.isStr_eq (List.all_eq_true.1 (rtrait0 m) i hi)) h1 h2) rfl rfl hg

/-! ### What is handed in -/
def partD {H : Type} (w v m c s t k : Int) (nm : List UInt8) : DataW H := .agg [.lit (.int .u8 w), .lit (.int .u8 v), .lit (.int .u8 m), .lit (.int .i64 c), .lit (.int .u8 s), .lit (.int .u8 t), .lit (.int .u8 k), .lit (.string nm)]
theorem absd_part {H : Type} (w v m c s t k : Int) (nm : List UInt8) (h : Go.Fs.AH) : Go.Fs.absArg (H := H) Tryz.prog (fun _ => false) 4 47 (partD w v m c s t k nm) h = some (.agg (Go.Proofs.Ef.part w v m c s t k nm), h) := by kernel_rfl
theorem part_shape {H : Type} {enc : TypeId × Value → H} {W : World} {fuel : Nat} {cs : List Value} {d : DataW H} {ps : List MemPlace} (h : DataW.trod enc Tryz.prog W 0 (fun _ => true) true fuel 47 cs = some (d, ps)) :
    ∃ w v m c s t k nm, d = partD w v m c s t k nm ∧ (0 ≤ s ∧ s ≤ 255) ∧ (0 ≤ t ∧ t ≤ 255) ∧ (0 ≤ k ∧ k ≤ 255) := by
  obtain ⟨f, xs, rfl, hx⟩ := Go.Fs.trod_struct Tryz.underlying47 h
  simp only [List.mapM_cons, List.mapM_nil, Option.bind_eq_bind, Option.bind_eq_some_iff, Option.pure_def, Option.some.injEq] at hx
  obtain ⟨x1, h1, _, ⟨x2, h2, _, ⟨x3, h3, _, ⟨x4, h4, _, ⟨x5, h5, _, ⟨x6, h6, _, ⟨x7, h7, _, ⟨x8, h8, _, rfl, rfl⟩, rfl⟩, rfl⟩, rfl⟩, rfl⟩, rfl⟩, rfl⟩, rfl⟩ := hx
  obtain ⟨n1, e1, _⟩ := Go.Fs.trod_int (d := x1.1) (ps := x1.2) Tryz.underlying42 h1
  obtain ⟨n2, e2, _⟩ := Go.Fs.trod_int (d := x2.1) (ps := x2.2) Tryz.underlying43 h2
  obtain ⟨n3, e3, _⟩ := Go.Fs.trod_int (d := x3.1) (ps := x3.2) Tryz.underlying44 h3
  obtain ⟨n4, e4, _⟩ := Go.Fs.trod_int (d := x4.1) (ps := x4.2) Tryz.underlying3 h4
  obtain ⟨n5, e5, r5⟩ := Go.Fs.trod_int (d := x5.1) (ps := x5.2) Tryz.underlying25 h5
  obtain ⟨n6, e6, r6⟩ := Go.Fs.trod_int (d := x6.1) (ps := x6.2) Tryz.underlying45 h6
  obtain ⟨n7, e7, r7⟩ := Go.Fs.trod_int (d := x7.1) (ps := x7.2) Tryz.underlying34 h7
  obtain ⟨n8, e8, _⟩ := Go.Fs.trod_string (d := x8.1) (ps := x8.2) Tryz.underlying9 h8
  exact ⟨n1, n2, n3, n4, n5, n6, n7, n8, by simp [partD, e1, e2, e3, e4, e5, e6, e7, e8], r5, r6, r7⟩

set_option maxRecDepth 100000 in
theorem lifted (os : Os) (started : os.Started) (H : Type) (enc : TypeId × Value → H) :
    ReturnsInHanded {} Tryz.checked os 5 .any (fun w args => (Rows.effectChecksSpec.pre enc Tryz.prog Tryz.f5 [] false w args ∧ laidMetH Tryz.prog Rows.effectChecksRow.laid w) ∧ sizedMet enc Tryz.prog Tryz.f5 (OpenSpec.ofChange Rows.effectChecksSpec) false w args)
      (Rows.effectChecksSpec.post enc Tryz.prog Tryz.f5 false true false false) := by
  refine Go.Fs.returns_args (C := Tryz.checked) (X := fun w => laidMetH Tryz.prog Rows.effectChecksRow.laid w) (fun _ _ hh h => h.of_heap hh) own started (by kernel_rfl) Tryz.func5
    (ChangeSpec.witness_shaped (enc := enc) (C := Tryz.checked) (os := os) (X := fun w _ => laidMetH Tryz.prog Rows.effectChecksRow.laid w) false (World.laidAll Tryz.prog os Rows.effectChecksRow.laid) #[.agg #[.int .u8 0, .int .u8 0, .int .u8 0, .int .i64 0, .int .u8 0, .int .u8 0, .int .u8 0, .string ⟨#[]⟩], .agg #[.int .u8 0, .int .u8 0, .int .u8 0, .int .i64 0, .int .u8 0, .int .u8 0, .int .u8 0, .string ⟨#[]⟩]] 8 (World.laidAll_os _ _ _)
      (World.shaped_of_ZipB (by kernel_rfl) (by kernel_rfl)) (by kernel_rfl) (by kernel_rfl) (by kernel_rfl)
      (by rw [MakeChecks.laidMetH_plain _ _ _ (by kernel_rfl)]; exact laidMet_laidAll _ (by kernel_rfl) (by kernel_rfl))) ?_
  intro W base args ds gs before hval hW hL hsh hsz
  have hL2 : laidMet Tryz.prog Rows.effectChecksRow.laid W := by
    have h := hL
    rw [MakeChecks.laidMetH_plain _ _ _ (by kernel_rfl)] at h
    exact h
  obtain ⟨m, hm⟩ := Tryz.laysIndex.s1_3 W hsh
  have hW' := hW
  obtain ⟨p, q, hA, hV, he, _, _⟩ := hW'
  have hA' := hA
  rw [show Tryz.f5.params.toList = [47, 47] by rw [Tryz.params5]] at hA'
  obtain ⟨v1, v2, d1, d2, p1, p2, _, rfl, _, h1, h2⟩ := trodAll_two hA'
  obtain ⟨fu1, h1⟩ := h1
  obtain ⟨fu2, h2⟩ := h2
  obtain ⟨xw, xv, xm, xc, xs, xt, xk, xn, rfl, r1, r2, r3⟩ := part_shape h1
  obtain ⟨yw, yv, ym, yc, ys, yt, yk, yn, rfl, _, _, _⟩ := part_shape h2
  have ha : Go.Fs.absArgs Tryz.prog (fun _ => false) 4 Tryz.f5.params.toList [partD (H := H) xw xv xm xc xs xt xk xn, partD yw yv ym yc ys yt yk yn] (h0 m) = some ([.agg (Go.Proofs.Ef.part xw xv xm xc xs xt xk xn), .agg (Go.Proofs.Ef.part yw yv ym yc ys yt yk yn)], h0 m) := by
    rw [show Tryz.f5.params.toList = [47, 47] by rw [Tryz.params5]]
    simp only [Go.Fs.absArgs, absd_part, Option.bind_some, Option.map_some]
  have hr := Go.Proofs.Ef.lawK_spec (orc := orcK m) (noneK m) (trimsK m) (fldsK m) (joinsK m) (toldK m)
    (fun h hg => Go.Fs.acall_overs (orc := suits.orcT) (n := 300) (by kernel_rfl) (lives0 m) rfl rfl hg) xw xv xm xc xs xt xk xn yw yv ym yc ys yt yk yn r1 r2 r3 (Go.Fs.Grown.refl (h0 m))
  refine (Go.Fs.law_laid mixed (goodK m) (by kernel_rfl) hA (fun j t v hj hv => hval j t v (by simpa using hj) (by simpa using hv)) e00 hL2 (g := 3) (of_decide_eq_true (by kernel_rfl)) hm ha hr).mono fun e W' ⟨he, hB⟩ => ?_
  exact ⟨_, he, Go.Fs.law_post (tb := 4) laidOut (by kernel_rfl) rfl Tryz.underlying4 rfl rfl hW hB⟩

theorem over : Rows.effectChecksRow.holds Tryz.pinned (OpenSpec.ofChange Rows.effectChecksSpec) :=
  OpenClaim.holds_of_wide 5 Tryz.f5 rfl rfl rfl rfl rfl rfl rfl ⟨rfl, rfl, rfl, rfl, rfl⟩ rfl rfl rfl rfl rfl (by kernel_rfl) Tryz.func5 (by kernel_rfl)
    (of_decide_eq_true (by kernel_rfl)) (by unfold Func.isWrapper; first | (rw [if_pos (by decide +kernel)]; kernel_rfl) | (rw [if_neg (by decide +kernel)]; exact ⟨rfl, rfl⟩))
    (fun os started H enc _ => lifted os started H enc)

/-- The statement. -/
theorem proved : Rows.EffectChecksCardSaid :=
  Claim7.holds_tied_plain_at .later [] [.data, .data, .data, .data, .sentinel, .sentinel, .listed, .data, .data, .pinned] true (true, "32f7d736994ab35d955e0fe48833ce20fa9b511e41617ac8723cd5db1750029d") true over (fun _ h => by cases h) (by kernel_rfl) (fun _ h => by cases h) effectChecks_row_tie rfl ⟨rfl, rfl⟩ (by kernel_rfl) rfl
    (fun g fn hf hfn => by
      obtain rfl : g = 5 := Option.some.inj ((show Tryz.prog.funcNamed "gambit/gambitlaw05.EffectChecks" = some 5 by kernel_rfl).symm.trans hf) |>.symm
      obtain rfl : fn = Tryz.f5 := (Option.some.inj (Tryz.func5.symm.trans hfn)).symm
      exact ⟨by kernel_rfl, fun j t ht => by
        rw [Tryz.params5] at ht
        match j with
        | 0 =>
          have e : (47 : TypeId) = t := Option.some.inj ht
          rw [← e]
          show Tryz.prog.wantsStandIn 47 = false
          kernel_rfl
        | 1 =>
          have e : (47 : TypeId) = t := Option.some.inj ht
          rw [← e]
          show Tryz.prog.wantsStandIn 47 = false
          kernel_rfl
        | j + 2 => simp at ht⟩)
    (by kernel_rfl)
#print axioms proved
end Go.Proofs.YtdehfehdaiappaaGreatDoor.effectChecks
