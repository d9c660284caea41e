/- The law CardParses answers true of every input: by a symbolic walk over the abstract machine of the Fs texts, whose soundness is proved there; then its tied card. -/
import Derived.Test.YtjmhjipacmlojaaGreatDoorCards
import Derived.Test.YtjmhjipacmlojaaGreatDoorTie
import Derived.WalkKit
import Derived.ProofKit
import Derived.OpenShut
import Derived.Lay
import Derived.SevenTiedAt
import Derived.Test.YtjmhjipacmlojaaGreatDoorFz05
import Derived.Test.YtjmhjipacmlojaaGreatDoorFz04
import Derived.Test.YtjmhjipacmlojaaGreatDoorFz05
import Derived.Test.YtjmhjipacmlojaaGreatDoorFz05
import Derived.Test.YtjmhjipacmlojaaGreatDoorZcCdParsesW
import Derived.Test.YtjmhjipacmlojaaGreatDoorZcEfPaOrc
import Derived.Test.YtjmhjipacmlojaaGreatDoorZcCdArgs
namespace Go.Proofs.YtjmhjipacmlojaaGreatDoor.cardParses
set_option maxRecDepth 100000
set_option maxHeartbeats 32000000
open Go.ChangeShapes Go.WideShapes Go.ChangeAt Go.RowKit
set_option linter.unusedVariables false
theorem own : ownKnob Tryz.prog.godebug = none := by kernel_rfl
theorem mixed : Tryz.prog.follows .mixedOrders = true := by kernel_rfl
theorem laidOut : laidOutB Tryz.prog = true := by kernel_rfl
noncomputable def h00 : Go.Fs.AH := (Go.Fs.absLaid Tryz.prog 40 Rows.cardParsesRow.laid (Go.Fs.start Tryz.prog.globals.size)).getD (Go.Fs.start Tryz.prog.globals.size)
theorem some00 : (Go.Fs.absLaid Tryz.prog 40 Rows.cardParsesRow.laid (Go.Fs.start Tryz.prog.globals.size)).isSome = true := by kernel_rfl
theorem e00 : Go.Fs.absLaid Tryz.prog 40 Rows.cardParsesRow.laid (Go.Fs.start Tryz.prog.globals.size) = some h00 := Go.Fs.some_getD some00
noncomputable def hJ (m : Int) : Go.Fs.AH := h00.set 5 (.cells [.int .i64 m] true)
noncomputable def h0 (m : Int) (u1 u2 : TypeId) : Go.Fs.AH := ((hJ m).set 3 (.cells [.iface u1 (.junk true)] true)).set 4 (.cells [.iface u2 (.junk true)] true)
section
variable (m : Int) (u1 u2 : TypeId)
theorem ok0 (m : Int) : Go.Fs.heapOk Tryz.prog.globals.size (hJ m) = true := by kernel_rfl
theorem digs0 : ((List.range 100).all fun i => Go.Fs.isStr (Go.Fs.runQ suits.orcT (Go.Fs.tbl Tryz.prog) 300 39 [.int .i64 (i : Int)] (hJ m)) (Go.Proofs.Ef.dig (i : Int))) = true := by kernel_rfl
theorem itoa0 : ((List.range 199).all fun i => Go.Fs.isStr (Go.Fs.runQ suits.orcT (Go.Fs.tbl Tryz.prog) 300 32 [.int .i64 ((i : Int) - 99)] (hJ m)) (Go.Proofs.Ef.dig ((i : Int) - 99))) = true := by kernel_rfl
theorem digits0 : ((List.range 199).all fun i => Go.Fs.isStr (Go.Fs.runQ suits.orcT (Go.Fs.tbl Tryz.prog) 300 90 [.int .i64 ((i : Int) - 99)] (hJ m)) (Go.Proofs.Ef.dig ((i : Int) - 99))) = true := by kernel_rfl
theorem rsuit0 : ((List.range 6).all fun i => Go.Fs.isStr (Go.Fs.runQ suits.orcT (Go.Fs.tbl Tryz.prog) 300 38 [.int .u8 ((i : Int) + 1)] (hJ m)) (Go.Proofs.Ef.sN ((i : Int) + 1))) = true := by kernel_rfl
theorem trait0 : ((List.range 8).all fun i => Go.Fs.isStr (Go.Fs.runQ suits.orcT (Go.Fs.tbl Tryz.prog) 300 34 [.int .u8 ((i : Int) + 1)] (hJ m)) (Go.Proofs.Ef.tN ((i : Int) + 1))) = true := by kernel_rfl
theorem rtrait0 : ((List.range 8).all fun i => Go.Fs.isStr (Go.Fs.runQ suits.orcT (Go.Fs.tbl Tryz.prog) 300 41 [.int .u8 ((i : Int) + 1)] (hJ m)) (Go.Proofs.Ef.tN ((i : Int) + 1))) = true := by kernel_rfl
noncomputable abbrev orcV : Go.Fs.Orc := Go.Fs.orcOversI Tryz.prog suits.orcT (hJ m) 300 [32, 90, 38, 34, 41, 39]
noncomputable abbrev orcK : Go.Fs.Orc := fun f => match Nat.beq f 19 with
 | true => some (Go.Fs.apartOrc 8)
 | false => suits.orcSA (suits.orcFJ (orcV m)) f
theorem goodK : Go.Fs.GoodOrc Tryz.prog (orcK m) := by
 intro f g hg args h v h' hv
 unfold orcK at hg
 split at hg
 · rename_i hf
   cases hg
   obtain rfl := Nat.eq_of_beq_eq_true hf
   exact Go.Fs.good_apart mixed (by decide) Go.Proofs.Cards.apart_run (by kernel_rfl) hv
 · exact suits.goodSA (suits.goodFJ (Go.Fs.good_orcOversI mixed suits.goodT (ok0 m) (by kernel_rfl))) f g hg args h v h' hv
theorem noneK : ∀ f, f ∈ [6, 10, 9, 29, 74, 75, 30, 31, 76, 33, 78, 116, 79, 23, 51, 24, 54, 61, 62, 63, 64, 65, 66, 67, 68, 106, 107, 108, 18, 47, 25, 69, 110, 70, 111, 141, 112, 57, 20, 52, 53, 26, 72, 71, 113, 114, 119, 104, 105, 120, 13, 40, 84, 42, 86, 87, 88, 14, 43, 44, 45, 46, 89, 121, 91, 92, 93, 94, 95, 96, 21, 59, 58, 102, 103] → orcK m f = none := by
 intro f hf
 simp only [List.mem_cons, List.mem_nil_iff, or_false] at hf
 rcases hf with rfl | rfl | rfl | rfl | rfl | rfl | rfl | rfl | rfl | rfl | rfl | rfl | rfl | rfl | rfl | rfl | rfl | rfl | rfl | rfl | rfl | rfl | rfl | rfl | rfl | rfl | rfl | rfl | rfl | rfl | rfl | rfl | rfl | rfl | rfl | rfl | rfl | rfl | rfl | rfl | rfl | rfl | rfl | rfl | rfl | rfl | rfl | rfl | rfl | rfl | rfl | rfl | rfl | rfl | rfl | rfl | rfl | rfl | rfl | rfl | rfl | rfl | rfl | rfl | rfl | rfl | rfl | rfl | rfl | rfl | rfl | rfl | rfl | rfl | rfl <;> kernel_rfl
theorem noneL (L : List Nat) (h : (L.all fun f => ([6, 10, 9, 29, 74, 75, 30, 31, 76, 33, 78, 116, 79, 23, 51, 24, 54, 61, 62, 63, 64, 65, 66, 67, 68, 106, 107, 108, 18, 47, 25, 69, 110, 70, 111, 141, 112, 57, 20, 52, 53, 26, 72, 71, 113, 114, 119, 104, 105, 120, 13, 40, 84, 42, 86, 87, 88, 14, 43, 44, 45, 46, 89, 121, 91, 92, 93, 94, 95, 96, 21, 59, 58, 102, 103] : List Nat).elem f) = true) : ∀ f ∈ L, orcK m f = none := fun f hf => by
 have := List.all_eq_true.1 h f hf
 exact noneK m f (by simpa using this)
theorem junk1 : (hJ m).get 3 = some (.cells [.junk true] true) := by kernel_rfl
theorem junk2 : (hJ m).get 4 = some (.cells [.junk true] true) := by kernel_rfl
theorem grow0 : Go.Fs.GrownI (hJ m) (h0 m u1 u2) :=
 ((Go.Fs.GrownI.refl (hJ m)).set (junk1 m) (junk1 m)).set (by rw [Go.Fs.Hp.get_set_ne _ _ _ _ (by decide)]; exact junk2 m) (junk2 m) |> fun x => x
theorem trimsK : Go.Proofs.Ef.Trims (orcK m) := fun a h hl => by
 refine Go.Fs.acall_orc (s := suits.tellTrim) (by kernel_rfl) ?_
 unfold suits.tellTrim
 simp only
 rw [if_pos ⟨by omega, by decide, by decide⟩]
theorem tab0 : Go.Fs.readCells (h0 m u1 u2) 1 0 256 = some suits.tabA := by kernel_rfl
theorem lt0 : Nat.ble 12 (h0 m u1 u2).n = true := by kernel_rfl
theorem cell0 : Go.Fs.readCell (h0 m u1 u2) 5 0 = some (.int .i64 m) := by kernel_rfl
theorem cell1 : Go.Fs.readCell (h0 m u1 u2) 3 0 = some (.iface u1 (.junk true)) := by kernel_rfl
theorem cell2 : Go.Fs.readCell (h0 m u1 u2) 4 0 = some (.iface u2 (.junk true)) := by kernel_rfl
theorem read_grown {h1 h : Go.Fs.AH} (hg : Go.Fs.Grown h1 h) {b o : Nat} {v : Go.Fs.AV} (hb : b < h1.n) (hr : Go.Fs.readCell h1 b o = some v) : Go.Fs.readCell h b o = some v := by
 unfold Go.Fs.readCell at hr ⊢
 rw [hg.2 b hb]; exact hr
theorem n0 : 12 ≤ (h0 m u1 u2).n := Nat.le_of_ble_eq_true (lt0 m u1 u2)
theorem fldsK : Go.Proofs.Ef.Flds (orcK m) (h0 m u1 u2) := fun a ws h hg hl ha hf => by
 refine Go.Fs.acall_orc (s := suits.tellFields) (by kernel_rfl) ?_
 have ht : Go.Fs.readCells h 1 0 256 = some suits.tabA := by
  have := tab0 m u1 u2
  unfold Go.Fs.readCells at this ⊢
  rw [hg.2 1 (by have := n0 m u1 u2; omega)]
  exact this
 unfold suits.tellFields
 simp only
 rw [if_pos ⟨hl, ha, ht⟩, hf]
theorem joinsK : Go.Proofs.Ef.Joins (orcK m) := fun L b cap ro h hg hne hcap hl hj => by
 refine Go.Fs.acall_orc (s := suits.tellJoin) (by kernel_rfl) ?_
 have hx : ∃ (L' : List (List UInt8)) (ro : Bool), h.get b = some (.cells (L'.map Go.Fs.AV.str) ro) ∧ L'.length = L.length ∧ L' ≠ [] ∧ (cap = .opn 1 ∨ cap = .exact L.length) ∧ L'.length ≤ 1000 ∧ (Lib.join L' [32]).length ≤ 100000 := ⟨L, ro, hg, rfl, hne, hcap, hl, hj⟩
 unfold suits.tellJoin
 simp only
 rw [dif_pos hx]
 obtain ⟨ro', k1, _⟩ := hx.choose_spec
 have k1' := hg.symm.trans k1
 have k2 : L.map Go.Fs.AV.str = hx.choose.map Go.Fs.AV.str := by injection k1' with k1'; injection k1'
 rw [← suits.map_str_inj k2]
theorem num_of {P : Int → Prop} {c : Int} (h : ∀ i : Nat, i ∈ List.range 199 → P ((i : Int) - 99)) (h1 : -99 ≤ c) (h2 : c ≤ 99) : P c := by
 have := h (c + 99).toNat (by rw [List.mem_range]; omega)
 rwa [show (((c + 99).toNat : Nat) : Int) - 99 = c by omega] at this
theorem one_of {P : Int → Prop} {n : Nat} {c : Int} (h : ∀ i : Nat, i ∈ List.range n → P ((i : Int) + 1)) (h1 : 1 ≤ c) (h2 : c ≤ (n : Int)) : P c := by
 have := h (c - 1).toNat (by rw [List.mem_range]; omega)
 rwa [show (((c - 1).toNat : Nat) : Int) + 1 = c by omega] at this
theorem toldK : Go.Proofs.Ef.Told (orcK m) (h0 m u1 u2) where
 itoa := fun c h hg h1 h2 => Go.Fs.acall_oversI (orc := suits.orcT) (h0 := hJ m) (n := 300) (gs := [32, 90, 38, 34, 41, 39]) (by kernel_rfl) (by kernel_rfl) (num_of (P := fun c => (Go.Fs.runQ suits.orcT (Go.Fs.tbl Tryz.prog) 300 32 [.int .i64 c] (hJ m)).map Prod.fst = some (.str (Go.Proofs.Ef.dig c))) (fun i hi => Go.Fs.isStr_eq (List.all_eq_true.1 (itoa0 m) i hi)) h1 h2) rfl rfl ((grow0 m u1 u2).of hg)
 digits := fun c h hg h1 h2 => Go.Fs.acall_oversI (orc := suits.orcT) (h0 := hJ m) (n := 300) (gs := [32, 90, 38, 34, 41, 39]) (by kernel_rfl) (by kernel_rfl) (num_of (P := fun c => (Go.Fs.runQ suits.orcT (Go.Fs.tbl Tryz.prog) 300 90 [.int .i64 c] (hJ m)).map Prod.fst = some (.str (Go.Proofs.Ef.dig c))) (fun i hi => Go.Fs.isStr_eq (List.all_eq_true.1 (digits0 m) i hi)) h1 h2) rfl rfl ((grow0 m u1 u2).of hg)
 suit := fun c h hg h1 h2 => by
  have := Go.Proofs.Cards.sname_spec (orc := orcK m) (by kernel_rfl) c h
  rwa [show Go.Proofs.Cards.snm c = Go.Proofs.Ef.sN c by unfold Go.Proofs.Cards.snm; rw [if_pos ⟨h1, h2⟩]] at this
 rsuit := fun c h hg h1 h2 => Go.Fs.acall_oversI (orc := suits.orcT) (h0 := hJ m) (n := 300) (gs := [32, 90, 38, 34, 41, 39]) (by kernel_rfl) (by kernel_rfl) (one_of (n := 6) (P := fun c => (Go.Fs.runQ suits.orcT (Go.Fs.tbl Tryz.prog) 300 38 [.int .u8 c] (hJ m)).map Prod.fst = some (.str (Go.Proofs.Ef.sN c))) (fun i hi => Go.Fs.isStr_eq (List.all_eq_true.1 (rsuit0 m) i hi)) h1 h2) rfl rfl ((grow0 m u1 u2).of hg)
 trait := fun c h hg h1 h2 => Go.Fs.acall_oversI (orc := suits.orcT) (h0 := hJ m) (n := 300) (gs := [32, 90, 38, 34, 41, 39]) (by kernel_rfl) (by kernel_rfl) (one_of (n := 8) (P := fun c => (Go.Fs.runQ suits.orcT (Go.Fs.tbl Tryz.prog) 300 34 [.int .u8 c] (hJ m)).map Prod.fst = some (.str (Go.Proofs.Ef.tN c))) (fun i hi => Go.Fs.isStr_eq (List.all_eq_true.1 (trait0 m) i hi)) h1 h2) rfl rfl ((grow0 m u1 u2).of hg)
 rtrait := fun c h hg h1 h2 => Go.Fs.acall_oversI (orc := suits.orcT) (h0 := hJ m) (n := 300) (gs := [32, 90, 38, 34, 41, 39]) (by kernel_rfl) (by kernel_rfl) (one_of (n := 8) (P := fun c => (Go.Fs.runQ suits.orcT (Go.Fs.tbl Tryz.prog) 300 41 [.int .u8 c] (hJ m)).map Prod.fst = some (.str (Go.Proofs.Ef.tN c))) (fun i hi => Go.Fs.isStr_eq (List.all_eq_true.1 (rtrait0 m) i hi)) h1 h2) rfl rfl ((grow0 m u1 u2).of hg)
theorem ptoldK : Go.Proofs.Ef.PTold (orcK m) (h0 m u1 u2) (fun s => Lib.split s [32]) suits.atoiV suits.answer where
 split := fun s h hg hl => by
  refine Go.Fs.acall_orc (s := suits.tellSplit) (by kernel_rfl) ?_
  unfold suits.tellSplit
  simp only
  rw [if_pos ⟨by omega, by simp, m, read_grown hg (Nat.lt_of_lt_of_le (by decide) (n0 m u1 u2)) (cell0 m u1 u2)⟩]
 len := fun s hl => ⟨by have := (Go.Fs.Plain.split_len s).1; omega, fun x hx => by have := (Go.Fs.Plain.split_len s).2 x hx; omega⟩
 atoi := fun s h hg hl => by
  refine Go.Fs.acall_orc (s := suits.tellAtoi) (by kernel_rfl) ?_
  unfold suits.tellAtoi
  simp only
  rw [if_pos ⟨by omega, ⟨_, _, read_grown hg (Nat.lt_of_lt_of_le (by decide) (n0 m u1 u2)) (cell1 m u1 u2)⟩, ⟨_, _, read_grown hg (Nat.lt_of_lt_of_le (by decide) (n0 m u1 u2)) (cell2 m u1 u2)⟩⟩]
 suit := fun s h => Go.Fs.acall_orc (s := suits.tellOf) (by kernel_rfl) rfl
theorem ctoldK : Go.Proofs.Cards.CTold (orcK m) (h0 m u1 u2) suits.atoiV suits.answer where
 index := fun a b h hg hl => by
  refine Go.Fs.acall_orc (s := suits.tellIndex) (by kernel_rfl) ?_
  unfold suits.tellIndex
  simp only
  rw [if_pos (by omega), read_grown hg (Nat.lt_of_lt_of_le (by decide) (n0 m u1 u2)) (cell0 m u1 u2)]
 split := fun s h hg hl => by
  refine Go.Fs.acall_orc (s := suits.tellSplit) (by kernel_rfl) ?_
  unfold suits.tellSplit
  simp only
  rw [if_pos ⟨by omega, by simp, m, read_grown hg (Nat.lt_of_lt_of_le (by decide) (n0 m u1 u2)) (cell0 m u1 u2)⟩]
 atoi := fun s h hg hl => by
  refine Go.Fs.acall_orc (s := suits.tellAtoi) (by kernel_rfl) ?_
  unfold suits.tellAtoi
  simp only
  rw [if_pos ⟨by omega, ⟨_, _, read_grown hg (Nat.lt_of_lt_of_le (by decide) (n0 m u1 u2)) (cell1 m u1 u2)⟩, ⟨_, _, read_grown hg (Nat.lt_of_lt_of_le (by decide) (n0 m u1 u2)) (cell2 m u1 u2)⟩⟩]
 suit := fun s h => Go.Fs.acall_orc (s := suits.tellOf) (by kernel_rfl) rfl
theorem digsK : Go.Proofs.Cards.Digs (orcK m) (h0 m u1 u2) := fun n hh hg h1 h2 => by
 refine Go.Fs.acall_oversI (orc := suits.orcT) (h0 := hJ m) (n := 300) (gs := [32, 90, 38, 34, 41, 39]) (by kernel_rfl) (by kernel_rfl) ?_ rfl rfl ((grow0 m u1 u2).of hg)
 have := Go.Fs.isStr_eq (List.all_eq_true.1 (digs0 m) n.toNat (by rw [List.mem_range]; omega))
 rwa [show ((n.toNat : Nat) : Int) = n by omega] at this
end
theorem rtoldK : Go.Proofs.Ef.RTold suits.atoiV suits.answer where
 num := fun c h1 h2 => by
  have := Go.Proofs.Ef.num_all (p := fun c => decide (suits.atoiV (Go.Proofs.Ef.dig c) = c)) (by decide +kernel) h1 h2
  simpa using this
 none := by decide +kernel
 suit := fun s h1 h2 => one_of (n := 6) (P := fun s => (suits.answer (Go.Proofs.Ef.sN s)).1 = s) (by decide +kernel) h1 h2
 nosuit := by decide +kernel
theorem piecesK (W : List (List UInt8)) (h1 : W ≠ []) (h2 : W.all Go.Proofs.Ef.noB = true) : (fun s => Lib.split s [32]) (Lib.join W [32]) = W :=
 Go.Fs.Plain.split_join h1 fun x hx => Go.Proofs.Ef.noB_out (List.all_eq_true.1 h2 x hx)
theorem lifted (os : Os) (started : os.Started) (H : Type) (enc : TypeId × Value → H) :
    ReturnsInHanded {} Tryz.checked os 6 .any (fun w args => (Rows.cardParsesSpec.pre enc Tryz.prog Tryz.f6 [] false w args ∧ laidMetH Tryz.prog Rows.cardParsesRow.laid w) ∧ sizedMet enc Tryz.prog Tryz.f6 (OpenSpec.ofChange Rows.cardParsesSpec) false w args)
     (Rows.cardParsesSpec.post enc Tryz.prog Tryz.f6 false true false false) := by
 refine Go.Fs.returns_args (C := Tryz.checked) (X := fun w => laidMetH Tryz.prog Rows.cardParsesRow.laid w) (fun _ _ hh h => h.of_heap hh) own started (by kernel_rfl) Tryz.func6
  (ChangeSpec.witness_shaped (enc := enc) (C := Tryz.checked) (os := os) (X := fun w _ => laidMetH Tryz.prog Rows.cardParsesRow.laid w) false (World.laidAll Tryz.prog os Rows.cardParsesRow.laid) #[.string ⟨#[]⟩] 8 (World.laidAll_os _ _ _)
    (World.shaped_of_ZipB (by kernel_rfl) (by kernel_rfl)) (by kernel_rfl) (by kernel_rfl) (by kernel_rfl)
    (by rw [MakeChecks.laidMetH_plain _ _ _ (by kernel_rfl)]; exact laidMet_laidAll _ (by kernel_rfl) (by kernel_rfl))) ?_
 intro W base args ds gs before hval hW hL hsh hsz
 have hL2 : laidMet Tryz.prog Rows.cardParsesRow.laid W := by
  have h := hL
  rw [MakeChecks.laidMetH_plain _ _ _ (by kernel_rfl)] at h
  exact h
 obtain ⟨m, hm⟩ := Tryz.laysIndex.s1_3 W hsh
 obtain ⟨u1, v1', hc1, hj1⟩ := Go.Fs.laid_ifaceP (P := Tryz.prog) (n := "strconv.ErrSyntax") (g := 3) (t := 81) (d := Rows.laid_strconv_ErrSyntax) (by kernel_rfl) (by kernel_rfl) Tryz.underlying81 hL2 rfl (by simp [Rows.cardParsesRow])
 obtain ⟨u2, v2', hc2, hj2⟩ := Go.Fs.laid_ifaceP (P := Tryz.prog) (n := "strconv.ErrRange") (g := 4) (t := 81) (d := Rows.laid_strconv_ErrRange) (by kernel_rfl) (by kernel_rfl) Tryz.underlying81 hL2 rfl (by simp [Rows.cardParsesRow])
 have hW' := hW
 obtain ⟨p, q, hA, hV, he, _, _⟩ := hW'
 have hA' := hA
 rw [show Tryz.f6.params.toList = [9] by rw [Tryz.params6]] at hA'
 obtain ⟨v1, d1, _, rfl, h1⟩ := trodAll_one hA'
 obtain ⟨fu1, h1⟩ := h1
 obtain ⟨bs, rfl, _⟩ := Go.Fs.trod_string Tryz.underlying9 h1
 have ha : Go.Fs.absArgs Tryz.prog (fun _ => false) 4 Tryz.f6.params.toList [(.lit (.string bs) : DataW H)] (h0 m u1 u2) = some ([.str bs], h0 m u1 u2) := by
  rw [show Tryz.f6.params.toList = [9] by rw [Tryz.params6]]
  simp only [Go.Fs.absArgs, Go.Fs.absArg_str (fuel := 3) Tryz.underlying9, Option.bind_some, Option.map_some]
 have hr := Go.Proofs.Cards.parses_spec (orc := orcK m) (h0 := h0 m u1 u2) (atoiV := suits.atoiV) (sf := suits.answer) rtoldK piecesK (by kernel_rfl) (by kernel_rfl) (noneL m _ (by decide +kernel)) (noneL m _ (by decide +kernel)) (noneL m _ (by decide +kernel)) (noneL m _ (by decide +kernel)) (noneL m _ (by decide +kernel)) (noneL m _ (by decide +kernel)) (noneL m _ (by decide +kernel)) (by kernel_rfl) (by kernel_rfl) rfl
  (trimsK m) (fldsK m u1 u2) (joinsK m) (toldK m u1 u2) (ptoldK m u1 u2) (ctoldK m u1 u2) (digsK m u1 u2) bs (Go.Fs.Grown.refl (h0 m u1 u2))
 refine (Go.Fs.law_laids mixed (by kernel_rfl) hA (fun j t v hj hv => hval j t v (by simpa using hj) (by simpa using hv)) e00 hL2 (g := 5) (g1 := 3) (g2 := 4) (of_decide_eq_true (by kernel_rfl)) (of_decide_eq_true (by kernel_rfl)) (of_decide_eq_true (by kernel_rfl)) hm hc1 hc2 hj1 hj2 (goodK m) ha hr).mono fun e W' ⟨he, hB⟩ => ?_
 exact ⟨_, he, Go.Fs.law_post (tb := 4) laidOut (by kernel_rfl) rfl Tryz.underlying4 rfl rfl hW hB⟩
theorem over : Rows.cardParsesRow.holds Tryz.pinned (OpenSpec.ofChange Rows.cardParsesSpec) :=
 OpenClaim.holds_of_wide 6 Tryz.f6 rfl rfl rfl rfl rfl rfl rfl ⟨rfl, rfl, rfl, rfl, rfl⟩ rfl rfl rfl rfl rfl (by kernel_rfl) Tryz.func6 (by kernel_rfl)
  (of_decide_eq_true (by kernel_rfl)) (by unfold Func.isWrapper; first | (rw [if_pos (by decide +kernel)]; kernel_rfl) | (rw [if_neg (by decide +kernel)]; exact ⟨rfl, rfl⟩))
  (fun os started H enc _ => lifted os started H enc)
theorem proved : Rows.CardParsesCardSaid :=
 Claim7.holds_tied_plain_at .later [] [.data, .data, .data, .data, .sentinel, .sentinel, .listed, .data, .data, .pinned] true (true, "bb313f931166b14406d38b30da0f257e5516a753adf6c7dd900d5eae366e9100") true over (fun _ h => by cases h) (by kernel_rfl) (fun _ h => by cases h) cardParses_row_tie rfl ⟨rfl, rfl⟩ (by kernel_rfl) rfl
  (fun g fn hf hfn => by
    obtain rfl : g = 6 := Option.some.inj ((show Tryz.prog.funcNamed "gambit/gambitlaw06.CardParses" = some 6 by kernel_rfl).symm.trans hf) |>.symm
    obtain rfl : fn = Tryz.f6 := (Option.some.inj (Tryz.func6.symm.trans hfn)).symm
    exact ⟨by kernel_rfl, fun j t ht => by
     rw [Tryz.params6] at ht
     match j with
     | 0 =>
       have e : (9 : TypeId) = t := Option.some.inj ht
       rw [← e]
       show Tryz.prog.wantsStandIn 9 = false
       kernel_rfl
     | j + 1 => simp at ht⟩)
  (by kernel_rfl)
#print axioms proved
end Go.Proofs.YtjmhjipacmlojaaGreatDoor.cardParses
