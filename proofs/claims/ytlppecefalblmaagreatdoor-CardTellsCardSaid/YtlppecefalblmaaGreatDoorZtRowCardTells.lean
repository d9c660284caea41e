/- The law CardTells answers true of every input: by a symbolic walk over the abstract machine of the Fs texts, whose soundness is proved there; then its tied card. -/
import Derived.Test.YtlppecefalblmaaGreatDoorCards
import Derived.Test.YtlppecefalblmaaGreatDoorTie
import Derived.WalkKit
import Derived.ProofKit
import Derived.OpenShut
import Derived.Lay
import Derived.SevenTiedAt
import Derived.Test.YtlppecefalblmaaGreatDoorFz05
import Derived.Test.YtlppecefalblmaaGreatDoorFz04
import Derived.Test.YtlppecefalblmaaGreatDoorFz05
import Derived.Test.YtlppecefalblmaaGreatDoorFz05
import Derived.Test.YtlppecefalblmaaGreatDoorZtCdTellsX
import Derived.Test.YtlppecefalblmaaGreatDoorZtEfPrOrc
import Derived.Test.YtlppecefalblmaaGreatDoorFz06
import Derived.Test.YtlppecefalblmaaGreatDoorZtCdArgs
namespace Go.Proofs.YtlppecefalblmaaGreatDoor.cardTells
set_option maxRecDepth 100000
set_option maxHeartbeats 32000000
open Go.ChangeShapes Go.WideShapes Go.ChangeAt Go.RowKit
set_option linter.unusedVariables false
theorem own : ownKnob Tryz.prog.godebug = none := by kernel_rfl
theorem mixed : Tryz.prog.follows .mixedOrders = true := by kernel_rfl
theorem laidOut : laidOutB Tryz.prog = true := by kernel_rfl
noncomputable def h00 : Go.Fs.AH := (Go.Fs.absLaid Tryz.prog 40 Rows.cardTellsRow.laid (Go.Fs.start Tryz.prog.globals.size)).getD (Go.Fs.start Tryz.prog.globals.size)
theorem some00 : (Go.Fs.absLaid Tryz.prog 40 Rows.cardTellsRow.laid (Go.Fs.start Tryz.prog.globals.size)).isSome = true := by kernel_rfl
theorem e00 : Go.Fs.absLaid Tryz.prog 40 Rows.cardTellsRow.laid (Go.Fs.start Tryz.prog.globals.size) = some h00 := Go.Fs.some_getD some00
noncomputable def hJ (m : Int) : Go.Fs.AH := h00.set 2 (.cells [.int .i64 m] true)
noncomputable def h0 (m : Int) : Go.Fs.AH := hJ m
section
variable (m : Int)
theorem ok0 (m : Int) : Go.Fs.heapOk Tryz.prog.globals.size (hJ m) = true := by kernel_rfl
theorem digs0 : ((List.range 100).all fun i => Go.Fs.isStr (Go.Fs.runQ suits.orcT (Go.Fs.tbl Tryz.prog) 300 48 [.int .i64 (i : Int)] (hJ m)) (Go.Proofs.Ef.dig (i : Int))) = true := by kernel_rfl
theorem itoa0 : ((List.range 199).all fun i => Go.Fs.isStr (Go.Fs.runQ suits.orcT (Go.Fs.tbl Tryz.prog) 300 40 [.int .i64 ((i : Int) - 99)] (hJ m)) (Go.Proofs.Ef.dig ((i : Int) - 99))) = true := by kernel_rfl
theorem digits0 : ((List.range 199).all fun i => Go.Fs.isStr (Go.Fs.runQ suits.orcT (Go.Fs.tbl Tryz.prog) 300 110 [.int .i64 ((i : Int) - 99)] (hJ m)) (Go.Proofs.Ef.dig ((i : Int) - 99))) = true := by kernel_rfl
theorem rsuit0 : ((List.range 6).all fun i => Go.Fs.isStr (Go.Fs.runQ suits.orcT (Go.Fs.tbl Tryz.prog) 300 47 [.int .u8 ((i : Int) + 1)] (hJ m)) (Go.Proofs.Ef.sN ((i : Int) + 1))) = true := by kernel_rfl
theorem trait0 : ((List.range 8).all fun i => Go.Fs.isStr (Go.Fs.runQ suits.orcT (Go.Fs.tbl Tryz.prog) 300 42 [.int .u8 ((i : Int) + 1)] (hJ m)) (Go.Proofs.Ef.tN ((i : Int) + 1))) = true := by kernel_rfl
theorem rtrait0 : ((List.range 8).all fun i => Go.Fs.isStr (Go.Fs.runQ suits.orcT (Go.Fs.tbl Tryz.prog) 300 50 [.int .u8 ((i : Int) + 1)] (hJ m)) (Go.Proofs.Ef.tN ((i : Int) + 1))) = true := by kernel_rfl
noncomputable abbrev orcV : Go.Fs.Orc := Go.Fs.orcOversI Tryz.prog suits.orcT (hJ m) 300 [40, 110, 47, 42, 50, 48]
noncomputable abbrev orcK : Go.Fs.Orc := fun f => match Nat.beq f 18 with
 | true => some (Go.Fs.apartOrc 8)
 | false => suits.orcFJ (orcV m) f
theorem goodK : Go.Fs.GoodOrc Tryz.prog (orcK m) := by
 intro f g hg args h v h' hv
 unfold orcK at hg
 split at hg
 · rename_i hf
   cases hg
   obtain rfl := Nat.eq_of_beq_eq_true hf
   exact Go.Fs.good_apart mixed (by decide) Go.Proofs.Cards.apart_run (by kernel_rfl) hv
 · exact suits.goodFJ (Go.Fs.good_orcOversI mixed suits.goodT (ok0 m) (by kernel_rfl)) f g hg args h v h' hv
theorem noneK : ∀ f, f ∈ [3, 7, 35, 15, 57, 16, 10, 11, 46, 45, 103, 14, 9, 8, 36, 86, 87, 38, 39, 88, 41, 99, 136, 100, 43, 101, 37, 89, 90, 91, 92, 93, 94, 95, 96, 97, 132, 133, 134, 17, 56, 12, 49, 104, 139, 51, 106, 107, 108, 13, 52, 53, 54, 55, 109, 141, 111, 112, 113, 114, 115, 116] → orcK m f = none := by
 intro f hf
 simp only [List.mem_cons, List.mem_nil_iff, or_false] at hf
 rcases hf with rfl | rfl | rfl | rfl | rfl | rfl | rfl | rfl | rfl | rfl | rfl | rfl | rfl | rfl | rfl | rfl | rfl | rfl | rfl | rfl | rfl | rfl | rfl | rfl | rfl | rfl | rfl | rfl | rfl | rfl | rfl | rfl | rfl | rfl | rfl | rfl | rfl | rfl | rfl | rfl | rfl | rfl | rfl | rfl | rfl | rfl | rfl | rfl | rfl | rfl | rfl | rfl | rfl | rfl | rfl | rfl | rfl | rfl | rfl | rfl | rfl | rfl <;> kernel_rfl
theorem noneL (L : List Nat) (h : (L.all fun f => ([3, 7, 35, 15, 57, 16, 10, 11, 46, 45, 103, 14, 9, 8, 36, 86, 87, 38, 39, 88, 41, 99, 136, 100, 43, 101, 37, 89, 90, 91, 92, 93, 94, 95, 96, 97, 132, 133, 134, 17, 56, 12, 49, 104, 139, 51, 106, 107, 108, 13, 52, 53, 54, 55, 109, 141, 111, 112, 113, 114, 115, 116] : List Nat).elem f) = true) : ∀ f ∈ L, orcK m f = none := fun f hf => by
 have := List.all_eq_true.1 h f hf
 exact noneK m f (by simpa using this)
theorem grow0 : Go.Fs.GrownI (hJ m) (h0 m) := Go.Fs.GrownI.refl (hJ m)
theorem trimsK : Go.Proofs.Ef.Trims (orcK m) := fun a h hl => by
 refine Go.Fs.acall_orc (s := suits.tellTrim) (by kernel_rfl) ?_
 unfold suits.tellTrim
 simp only
 rw [if_pos ⟨by omega, by decide, by decide⟩]
theorem tab0 : Go.Fs.readCells (h0 m) 1 0 256 = some suits.tabA := by kernel_rfl
theorem lt0 : Nat.ble 12 (h0 m).n = true := by kernel_rfl
theorem cell0 : Go.Fs.readCell (h0 m) 2 0 = some (.int .i64 m) := by kernel_rfl
theorem read_grown {h1 h : Go.Fs.AH} (hg : Go.Fs.Grown h1 h) {b o : Nat} {v : Go.Fs.AV} (hb : b < h1.n) (hr : Go.Fs.readCell h1 b o = some v) : Go.Fs.readCell h b o = some v := by
 unfold Go.Fs.readCell at hr ⊢
 rw [hg.2 b hb]; exact hr
theorem n0 : 12 ≤ (h0 m).n := Nat.le_of_ble_eq_true (lt0 m)
theorem fldsK : Go.Proofs.Ef.Flds (orcK m) (h0 m) := fun a ws h hg hl ha hf => by
 refine Go.Fs.acall_orc (s := suits.tellFields) (by kernel_rfl) ?_
 have ht : Go.Fs.readCells h 1 0 256 = some suits.tabA := by
  have := tab0 m
  unfold Go.Fs.readCells at this ⊢
  rw [hg.2 1 (by have := n0 m; omega)]
  exact this
 unfold suits.tellFields
 simp only
 rw [if_pos ⟨hl, ha, ht⟩, hf]
theorem joinsK : Go.Proofs.Ef.Joins (orcK m) := fun L b cap ro h hg hne hcap hl hj => by
 refine Go.Fs.acall_orc (s := suits.tellJoin) (by kernel_rfl) ?_
 have hx : ∃ (L' : List (List UInt8)) (ro : Bool), h.get b = some (.cells (L'.map Go.Fs.AV.str) ro) ∧ L'.length = L.length ∧ L' ≠ [] ∧ (cap = .opn 1 ∨ cap = .exact L.length) ∧ L'.length ≤ 1000 ∧ (Lib.join L' [32]).length ≤ 100000 := ⟨L, ro, hg, rfl, hne, hcap, hl, hj⟩
 unfold suits.tellJoin
 simp only
 rw [dif_pos hx]
 obtain ⟨ro', k1, _⟩ := hx.choose_spec
 have k1' := hg.symm.trans k1
 have k2 : L.map Go.Fs.AV.str = hx.choose.map Go.Fs.AV.str := by injection k1' with k1'; injection k1'
 rw [← suits.map_str_inj k2]
theorem num_of {P : Int → Prop} {c : Int} (h : ∀ i : Nat, i ∈ List.range 199 → P ((i : Int) - 99)) (h1 : -99 ≤ c) (h2 : c ≤ 99) : P c := by
 have := h (c + 99).toNat (by rw [List.mem_range]; omega)
 rwa [show (((c + 99).toNat : Nat) : Int) - 99 = c by omega] at this
theorem one_of {P : Int → Prop} {n : Nat} {c : Int} (h : ∀ i : Nat, i ∈ List.range n → P ((i : Int) + 1)) (h1 : 1 ≤ c) (h2 : c ≤ (n : Int)) : P c := by
 have := h (c - 1).toNat (by rw [List.mem_range]; omega)
 rwa [show (((c - 1).toNat : Nat) : Int) + 1 = c by omega] at this
theorem toldK : Go.Proofs.Ef.Told (orcK m) (h0 m) where
 itoa := fun c h hg h1 h2 => Go.Fs.acall_oversI (orc := suits.orcT) (h0 := hJ m) (n := 300) (gs := [40, 110, 47, 42, 50, 48]) (by kernel_rfl) (by kernel_rfl) (num_of (P := fun c => (Go.Fs.runQ suits.orcT (Go.Fs.tbl Tryz.prog) 300 40 [.int .i64 c] (hJ m)).map Prod.fst = some (.str (Go.Proofs.Ef.dig c))) (fun i hi => Go.Fs.isStr_eq (List.all_eq_true.1 (itoa0 m) i hi)) h1 h2) rfl rfl ((grow0 m).of hg)
 digits := fun c h hg h1 h2 => Go.Fs.acall_oversI (orc := suits.orcT) (h0 := hJ m) (n := 300) (gs := [40, 110, 47, 42, 50, 48]) (by kernel_rfl) (by kernel_rfl) (num_of (P := fun c => (Go.Fs.runQ suits.orcT (Go.Fs.tbl Tryz.prog) 300 110 [.int .i64 c] (hJ m)).map Prod.fst = some (.str (Go.Proofs.Ef.dig c))) (fun i hi => Go.Fs.isStr_eq (List.all_eq_true.1 (digits0 m) i hi)) h1 h2) rfl rfl ((grow0 m).of hg)
 suit := fun c h hg h1 h2 => by
  have := Go.Proofs.Cards.sname_spec (orc := orcK m) (by kernel_rfl) c h
  rwa [show Go.Proofs.Cards.snm c = Go.Proofs.Ef.sN c by unfold Go.Proofs.Cards.snm; rw [if_pos ⟨h1, h2⟩]] at this
 rsuit := fun c h hg h1 h2 => Go.Fs.acall_oversI (orc := suits.orcT) (h0 := hJ m) (n := 300) (gs := [40, 110, 47, 42, 50, 48]) (by kernel_rfl) (by kernel_rfl) (one_of (n := 6) (P := fun c => (Go.Fs.runQ suits.orcT (Go.Fs.tbl Tryz.prog) 300 47 [.int .u8 c] (hJ m)).map Prod.fst = some (.str (Go.Proofs.Ef.sN c))) (fun i hi => Go.Fs.isStr_eq (List.all_eq_true.1 (rsuit0 m) i hi)) h1 h2) rfl rfl ((grow0 m).of hg)
 trait := fun c h hg h1 h2 => Go.Fs.acall_oversI (orc := suits.orcT) (h0 := hJ m) (n := 300) (gs := [40, 110, 47, 42, 50, 48]) (by kernel_rfl) (by kernel_rfl) (one_of (n := 8) (P := fun c => (Go.Fs.runQ suits.orcT (Go.Fs.tbl Tryz.prog) 300 42 [.int .u8 c] (hJ m)).map Prod.fst = some (.str (Go.Proofs.Ef.tN c))) (fun i hi => Go.Fs.isStr_eq (List.all_eq_true.1 (trait0 m) i hi)) h1 h2) rfl rfl ((grow0 m).of hg)
 rtrait := fun c h hg h1 h2 => Go.Fs.acall_oversI (orc := suits.orcT) (h0 := hJ m) (n := 300) (gs := [40, 110, 47, 42, 50, 48]) (by kernel_rfl) (by kernel_rfl) (one_of (n := 8) (P := fun c => (Go.Fs.runQ suits.orcT (Go.Fs.tbl Tryz.prog) 300 50 [.int .u8 c] (hJ m)).map Prod.fst = some (.str (Go.Proofs.Ef.tN c))) (fun i hi => Go.Fs.isStr_eq (List.all_eq_true.1 (rtrait0 m) i hi)) h1 h2) rfl rfl ((grow0 m).of hg)
theorem digsK : Go.Proofs.Cards.Digs (orcK m) (h0 m) := fun n hh hg h1 h2 => by
 refine Go.Fs.acall_oversI (orc := suits.orcT) (h0 := hJ m) (n := 300) (gs := [40, 110, 47, 42, 50, 48]) (by kernel_rfl) (by kernel_rfl) ?_ rfl rfl ((grow0 m).of hg)
 have := Go.Fs.isStr_eq (List.all_eq_true.1 (digs0 m) n.toNat (by rw [List.mem_range]; omega))
 rwa [show ((n.toNat : Nat) : Int) = n by omega] at this
end
theorem lifted (os : Os) (started : os.Started) (H : Type) (enc : TypeId × Value → H) :
    ReturnsInHanded {} Tryz.checked os 3 .any (fun w args => (Rows.cardTellsSpec.pre enc Tryz.prog Tryz.f3 [] false w args ∧ laidMetH Tryz.prog Rows.cardTellsRow.laid w) ∧ sizedMet enc Tryz.prog Tryz.f3 (OpenSpec.ofChange Rows.cardTellsSpec) false w args)
     (Rows.cardTellsSpec.post enc Tryz.prog Tryz.f3 false true false false) := by
 refine Go.Fs.returns_args (C := Tryz.checked) (X := fun w => laidMetH Tryz.prog Rows.cardTellsRow.laid w) (fun _ _ hh h => h.of_heap hh) own started (by kernel_rfl) Tryz.func3
  (ChangeSpec.witness_shaped (enc := enc) (C := Tryz.checked) (os := os) (X := fun w _ => laidMetH Tryz.prog Rows.cardTellsRow.laid w) false (World.laidAll Tryz.prog os Rows.cardTellsRow.laid) #[.agg #[.string ⟨#[]⟩, .int .u8 0, .int .u8 0, .int .i64 0, .int .i64 0, .int .i64 0, .int .u16 0, .bool false, .slice none 0 0]] 8 (World.laidAll_os _ _ _)
    (World.shaped_of_ZipB (by kernel_rfl) (by kernel_rfl)) (by kernel_rfl) (by kernel_rfl) (by kernel_rfl)
    (by rw [MakeChecks.laidMetH_plain _ _ _ (by kernel_rfl)]; exact laidMet_laidAll _ (by kernel_rfl) (by kernel_rfl))) ?_
 intro W base args ds gs before hval hW hL hsh hsz
 have hL2 : laidMet Tryz.prog Rows.cardTellsRow.laid W := by
  have h := hL
  rw [MakeChecks.laidMetH_plain _ _ _ (by kernel_rfl)] at h
  exact h
 obtain ⟨m, hm⟩ := Tryz.laysIndex.s1_3 W hsh
 have hW' := hW
 obtain ⟨p, q, hA, hV, he, _, _⟩ := hW'
 have hA' := hA
 rw [show Tryz.f3.params.toList = [28] by rw [Tryz.params3]] at hA'
 obtain ⟨v1, d1, _, rfl, h1⟩ := trodAll_one hA'
 obtain ⟨c, e1, rfl, g1, crng⟩ := Go.Proofs.Cards.card_shape h1
 rw [show Tryz.f3.params.toList = [28] by rw [Tryz.params3]] at hsz
 have hall := List.all_eq_true.1 hsz
 have f1 := Go.Proofs.Cards.fits g1 fun n hn => by
  have := hall n (DataW.weights_mem_each (j := 0) rfl rfl n hn)
  simpa using this
 obtain ⟨v, k1, ps, a1, i1, n1, o1, l1, prng⟩ := Go.Proofs.Cards.absd_parts f1 (h0 m)
 have ha : Go.Fs.absArgs Tryz.prog (fun _ => false) 5 Tryz.f3.params.toList [c.data e1] (h0 m) = some ([.agg (c.cells v)], k1) := by
  rw [show Tryz.f3.params.toList = [28] by rw [Tryz.params3]]
  simp only [Go.Fs.absArgs, Go.Proofs.Cards.absd_card c a1, Option.bind_some, Option.map_some]
 have gr : Go.Fs.Grown (h0 m) k1 := ⟨n1, o1⟩
 have lw : ps.length * 40 ≤ 140737488355328 := by omega
 have hr := Go.Proofs.Cards.tells_walk (orc := orcK m) (h0 := h0 m) mixed (goodK m) c v ps gr i1 l1
  (fun H hp => Go.Proofs.Cards.lentcard_spec (by kernel_rfl) (by kernel_rfl) hp lw)
  (fun v H hp => Go.Proofs.Cards.check_spec (noneL m _ (by decide +kernel)) (trimsK m) c v ps H hp)
  (fun v H hp hg => Go.Proofs.Cards.cprint_spec (noneL m _ (by decide +kernel)) (by kernel_rfl) (trimsK m) (fldsK m) (joinsK m) (toldK m) c v ps hp hg)
  (fun v X hp hn => Go.Proofs.Cards.ccopy_spec k1.n (by kernel_rfl) c v ps hn hp lw)
  (fun v H hp => Go.Proofs.Cards.means_spec (noneL m _ (by decide +kernel)) c v ps H hp)
  (fun v H hp => Go.Proofs.Cards.rmeans_spec (by kernel_rfl) c v ps H hp)
  (fun v H hp hg => Go.Proofs.Cards.rcprint_spec (noneL m _ (by decide +kernel)) (toldK m) (digsK m) c v ps crng prng hp hg)
  (fun v H hp => Go.Proofs.Cards.rchk_spec (noneL m _ (by decide +kernel)) c v ps crng prng H hp)
  (fun f v H hf hp => Go.Proofs.Cards.kept_spec (by kernel_rfl) (by kernel_rfl) (by kernel_rfl) hf hp l1)
  (fun b n cs h hg hl hb hn => Go.Proofs.Cards.over_spec (by kernel_rfl) hg hl hb hn)
  (fun v u H hp hq => Go.Proofs.Cards.samecard_spec (by kernel_rfl) (by kernel_rfl) hp hq)
  (by kernel_rfl)
 refine (Go.Fs.law_laidC Tryz.func3 (b := Go.Proofs.Cards.k0) (rs := [.tmp 2]) (by kernel_rfl) (by kernel_rfl) hA (fun j t v hj hv => hval j t v (by simpa using hj) (by simpa using hv)) e00 hL2 (g := 2) (of_decide_eq_true (by kernel_rfl)) hm ha hr).mono fun e W' ⟨he, hB⟩ => ?_
 exact ⟨_, he, Go.Fs.law_post (tb := 4) laidOut (by kernel_rfl) rfl Tryz.underlying4 rfl rfl hW hB⟩
theorem over : Rows.cardTellsRow.holds Tryz.pinned (OpenSpec.ofChange Rows.cardTellsSpec) :=
 OpenClaim.holds_of_wide 3 Tryz.f3 rfl rfl rfl rfl rfl rfl rfl ⟨rfl, rfl, rfl, rfl, rfl⟩ rfl rfl rfl rfl rfl (by kernel_rfl) Tryz.func3 (by kernel_rfl)
  (of_decide_eq_true (by kernel_rfl)) (by unfold Func.isWrapper; first | (rw [if_pos (by decide +kernel)]; kernel_rfl) | (rw [if_neg (by decide +kernel)]; exact ⟨rfl, rfl⟩))
  (fun os started H enc _ => lifted os started H enc)
theorem proved : Rows.CardTellsCardSaid :=
 Claim7.holds_tied_plain_at .later [] [.data, .data, .data, .data, .listed, .data, .data, .pinned] true (true, "54f4b8457d0f3de25e5681ce09fd86c2bab101d75289a37130bddd80a16c5b4b") true over (fun _ h => by cases h) (by kernel_rfl) (fun _ h => by cases h) cardTells_row_tie rfl ⟨rfl, rfl⟩ (by kernel_rfl) rfl
  (fun g fn hf hfn => by
    obtain rfl : g = 3 := Option.some.inj ((show Tryz.prog.funcNamed "gambit/gambitlaw06.CardTells" = some 3 by kernel_rfl).symm.trans hf) |>.symm
    obtain rfl : fn = Tryz.f3 := (Option.some.inj (Tryz.func3.symm.trans hfn)).symm
    exact ⟨by kernel_rfl, fun j t ht => by
     rw [Tryz.params3] at ht
     match j with
     | 0 =>
       have e : (28 : TypeId) = t := Option.some.inj ht
       rw [← e]
       show Tryz.prog.wantsStandIn 28 = false
       kernel_rfl
     | j + 1 => simp at ht⟩)
  (by kernel_rfl)
#print axioms proved
end Go.Proofs.YtlppecefalblmaaGreatDoor.cardTells
