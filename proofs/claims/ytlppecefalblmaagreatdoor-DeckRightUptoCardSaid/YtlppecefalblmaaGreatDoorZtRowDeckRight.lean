/- The law DeckRight answers true of every input of a bulk that is bounded: by a symbolic walk over the abstract machine of the Fs texts, whose soundness is proved there; then its tied card. -/
import Derived.Test.YtlppecefalblmaaGreatDoorCards
import Derived.Test.YtlppecefalblmaaGreatDoorTie
import Derived.WalkKit
import Derived.ProofKit
import Derived.OpenShut
import Derived.Lay
import Derived.SevenTiedAt
import Derived.Deep.DeepHandedRow
import Derived.Test.YtlppecefalblmaaGreatDoorFz05
import Derived.Test.YtlppecefalblmaaGreatDoorFz04
import Derived.Test.YtlppecefalblmaaGreatDoorFz05
import Derived.Test.YtlppecefalblmaaGreatDoorFz05
import Derived.Test.YtlppecefalblmaaGreatDoorZtEfOrc
import Derived.Test.YtlppecefalblmaaGreatDoorZtDkTold
import Derived.Test.YtlppecefalblmaaGreatDoorZtDkShape
namespace Go.Proofs.YtlppecefalblmaaGreatDoor.deckRight
set_option maxRecDepth 100000
set_option maxHeartbeats 32000000
open Go.ChangeShapes Go.WideShapes Go.ChangeAt Go.RowKit
set_option linter.unusedVariables false
theorem own : ownKnob Tryz.prog.godebug = none := by kernel_rfl
theorem mixed : Tryz.prog.follows .mixedOrders = true := by kernel_rfl
theorem laidOut : laidOutB Tryz.prog = true := by kernel_rfl
noncomputable def h00 : Go.Fs.AH := (Go.Fs.absLaid Tryz.prog 40 Rows.deckRightUptoRow.laid (Go.Fs.start Tryz.prog.globals.size)).getD (Go.Fs.start Tryz.prog.globals.size)
theorem some00 : (Go.Fs.absLaid Tryz.prog 40 Rows.deckRightUptoRow.laid (Go.Fs.start Tryz.prog.globals.size)).isSome = true := by kernel_rfl
theorem e00 : Go.Fs.absLaid Tryz.prog 40 Rows.deckRightUptoRow.laid (Go.Fs.start Tryz.prog.globals.size) = some h00 := Go.Fs.some_getD some00
noncomputable def hJ (m : Int) : Go.Fs.AH := h00.set 2 (.cells [.int .i64 m] true)
noncomputable def h0 (m : Int) (u1 u2 : TypeId) : Go.Fs.AH := ((hJ m).set 3 (.cells [.iface u1 (.junk true)] true)).set 4 (.cells [.iface u2 (.junk true)] true)
section
variable (m : Int) (u1 u2 : TypeId)
theorem ok0 (m : Int) : Go.Fs.heapOk Tryz.prog.globals.size (hJ m) = true := by kernel_rfl
theorem awake0 : (Go.Fs.runQ suits.orcT (Go.Fs.tbl Tryz.prog) 300 32 [] (hJ m)).map Prod.fst = some (.bool true) := by kernel_rfl
noncomputable abbrev orcK : Go.Fs.Orc := Go.Fs.orcOversI Tryz.prog suits.orcT (hJ m) 300 [32]
theorem goodK : Go.Fs.GoodOrc Tryz.prog (orcK m) := Go.Fs.good_orcOversI mixed suits.goodT (ok0 m) (by kernel_rfl)
theorem noneOf (L : List Nat) (h : (L.all fun f => (orcK m f).isNone) = true) : ∀ f, f ∈ L → orcK m f = none := fun f hf => by
 have := List.all_eq_true.1 h f hf
 simpa using this
theorem none1 : ∀ f, f ∈ Go.Proofs.Cards.told1 → orcK m f = none := noneOf m _ (by kernel_rfl)
theorem none2 : ∀ f, f ∈ Go.Proofs.Cards.told2 → orcK m f = none := noneOf m _ (by kernel_rfl)
theorem none3 : ∀ f, f ∈ Go.Proofs.Cards.told3 → orcK m f = none := noneOf m _ (by kernel_rfl)
theorem none4 : ∀ f, f ∈ Go.Proofs.Cards.told4 → orcK m f = none := noneOf m _ (by kernel_rfl)
theorem none5 : ∀ f, f ∈ Go.Proofs.Cards.told5 → orcK m f = none := noneOf m _ (by kernel_rfl)
theorem junk1 : (hJ m).get 3 = some (.cells [.junk true] true) := by kernel_rfl
theorem junk2 : (hJ m).get 4 = some (.cells [.junk true] true) := by kernel_rfl
theorem grow0 : Go.Fs.GrownI (hJ m) (h0 m u1 u2) :=
 ((Go.Fs.GrownI.refl (hJ m)).set (junk1 m) (junk1 m)).set (by rw [Go.Fs.Hp.get_set_ne _ _ _ _ (by decide)]; exact junk2 m) (junk2 m) |> fun x => x
theorem trimsK : Go.Proofs.Ef.Trims (orcK m) := fun a h hl => by
 refine Go.Fs.acall_orc (s := suits.tellTrim) (by kernel_rfl) ?_
 unfold suits.tellTrim
 simp only
 rw [if_pos ⟨by omega, by decide, by decide⟩]
end
theorem one_le {H : Type} (d : DataW H) : 1 ≤ Rows.uptoBulk d := by
 cases d with
 | lit l => cases l <;> simp [Rows.uptoBulk]
 | nil => simp [Rows.uptoBulk]
 | ptr d => simp [Rows.uptoBulk]
 | slice elems spare => simp [Rows.uptoBulk]
 | agg parts => simp [Rows.uptoBulk]
 | iface t d => simp [Rows.uptoBulk]
 | map entries => simp [Rows.uptoBulk]
 | held h => simp [Rows.uptoBulk]
theorem part_le {H : Type} {d : DataW H} : ∀ {l : List (DataW H)}, d ∈ l → Rows.uptoBulk d ≤ Rows.uptoBulkAll l
 | x :: r, h => by
   simp only [Rows.uptoBulkAll]
   rcases List.mem_cons.1 h with rfl | h
   · omega
   · have := part_le h; omega
theorem length_le {H : Type} : ∀ l : List (DataW H), l.length ≤ Rows.uptoBulkAll l
 | [] => by simp
 | x :: r => by
   have := one_le x
   have := length_le r
   simp only [Rows.uptoBulkAll, List.length_cons]; omega
theorem fits_of {H : Type} {xs ys : List (Go.Proofs.Cards.CD H)} {e2 : DataW H} {op : Bool} {d2 : DataW H} {gs : List (DataW H)} {N : Nat} (hN : N ≤ 1048576)
    (hb : Rows.uptoBulkAll ([Go.Proofs.Cards.Fill.data (.slice (xs.map Go.Proofs.Cards.CD.data) (ys.map Go.Proofs.Cards.CD.data)) e2 op, d2] ++ gs) ≤ N) {z : Go.Proofs.Cards.CD H} (hz : z ∈ xs ++ ys) (hs : Go.Proofs.Cards.PSh z.2) : Go.Proofs.Cards.Fits z.2 := by
 have h1 : Rows.uptoBulk z.data ≤ N := by
  have e1 : Rows.uptoBulkAll (xs.map Go.Proofs.Cards.CD.data) + Rows.uptoBulkAll (ys.map Go.Proofs.Cards.CD.data) ≤ N := by
   simp only [List.cons_append, Rows.uptoBulkAll, Go.Proofs.Cards.Fill.data, Rows.uptoBulk] at hb
   omega
  rcases List.mem_append.1 hz with h | h
  · have := part_le (List.mem_map_of_mem (f := Go.Proofs.Cards.CD.data) h); omega
  · have := part_le (List.mem_map_of_mem (f := Go.Proofs.Cards.CD.data) h); omega
 have h2 : Rows.uptoBulk z.2 ≤ N := by
  unfold Go.Proofs.Cards.CD.data Go.Proofs.Cards.Crd.data at h1
  simp only [Rows.uptoBulk, Rows.uptoBulkAll] at h1
  omega
 rcases hs with h | ⟨ps, qs, h, _, hr⟩
 · exact .inl h
 · refine .inr ⟨ps, qs, h, ?_, hr⟩
   rw [h] at h2
   simp only [Rows.uptoBulk] at h2
   have l1 := length_le (H := H) (ps.map Go.Proofs.Cards.Prt.data)
   have l2 := length_le (H := H) (qs.map Go.Proofs.Cards.Prt.data)
   rw [List.length_map] at l1 l2
   omega
theorem reads (os : Os) {H : Type} (enc : TypeId × Value → H) : DataW.whole enc Tryz.prog ((World.laidAll Tryz.prog os Rows.deckRightUptoRow.laid).forCall (fun _ _ => 0) ⟨#[], #[.agg #[.slice none 0 0, .slice none 0 0, .bool false], .slice none 0 0], []⟩).memory Tryz.f6.params.toList (Rows.OpenSpec.upto Rows.deckRightSpec).vars false #[Value.agg #[.slice none 0 0, .slice none 0 0, .bool false], .slice none 0 0].toList 8 = some ([.agg [.nil, .nil, .lit (.bool false)], .nil], [], []) := by kernel_rfl
theorem okB (os : Os) : Input.okWideB Tryz.checked.prog ((World.laidAll Tryz.prog os Rows.deckRightUptoRow.laid).forCall (fun _ _ => 0) ⟨#[], #[.agg #[.slice none 0 0, .slice none 0 0, .bool false], .slice none 0 0], []⟩) 6 ⟨#[], #[.agg #[.slice none 0 0, .slice none 0 0, .bool false], .slice none 0 0], []⟩ = true := by kernel_rfl
theorem lifted (os : Os) (started : os.Started) (H : Type) (enc : TypeId × Value → H) (F : Stop.Interp) :
    ReturnsInHanded {} Tryz.checked os 6 .any ((Rows.OpenSpec.upto Rows.deckRightSpec).preRow enc Tryz.prog Tryz.f6 Rows.deckRightUptoRow.domain false Rows.deckRightUptoRow.laid) (((Rows.OpenSpec.upto Rows.deckRightSpec).at F).post enc Tryz.prog Tryz.f6 false true false false) := by
 refine returnsInHanded_of_row (C := Tryz.checked) (s := Rows.OpenSpec.upto Rows.deckRightSpec) own started (by kernel_rfl) Tryz.func6
  ⟨World.laidAll Tryz.prog os Rows.deckRightUptoRow.laid, fun _ _ => 0, ⟨#[], #[.agg #[.slice none 0 0, .slice none 0 0, .bool false], .slice none 0 0], []⟩, rfl, World.shaped_of_ZipB (by kernel_rfl) (by kernel_rfl),
   rfl, (Input.okWide_of_okWideB (okB os)).2,
   OpenSpec.preRow_of_cond 8 (reads os enc) (by kernel_rfl) (fun k hk => by cases hk; kernel_rfl) (by kernel_rfl)
    (by rw [MakeChecks.laidMetH_plain _ _ _ (by kernel_rfl)]; exact laidMet_laidAll _ (by kernel_rfl) (by kernel_rfl)),
   by
    simp only [Assume.holds]
    exact ⟨by simp, by simp, fun _ => Modest.zero, by simp, by simp⟩⟩ ?_
 intro W base args ds gs before hval hW _ hk _ hL hsh _
 have hbulk : Rows.uptoBulkAll (ds ++ gs) ≤ 1048576 := of_decide_eq_true (hk _ rfl)
 have hL2 : laidMet Tryz.prog Rows.deckRightUptoRow.laid W := by
  have h := hL
  rw [MakeChecks.laidMetH_plain _ _ _ (by kernel_rfl)] at h
  exact h
 obtain ⟨m, hm⟩ := Tryz.laysIndex.s1_3 W hsh
 obtain ⟨u1, v1', hc1, hj1⟩ := Go.Fs.laid_ifaceP (P := Tryz.prog) (n := "strconv.ErrSyntax") (g := 3) (t := 109) (d := Rows.laid_strconv_ErrSyntax) (by kernel_rfl) (by kernel_rfl) Tryz.underlying109 hL2 rfl (by simp [Rows.deckRightUptoRow])
 obtain ⟨u2, v2', hc2, hj2⟩ := Go.Fs.laid_ifaceP (P := Tryz.prog) (n := "strconv.ErrRange") (g := 4) (t := 109) (d := Rows.laid_strconv_ErrRange) (by kernel_rfl) (by kernel_rfl) Tryz.underlying109 hL2 rfl (by simp [Rows.deckRightUptoRow])
 have hW' := hW
 obtain ⟨p, q, hA, hV, he, _, _⟩ := hW'
 have hA' := hA
 rw [show Tryz.f6.params.toList = [45, 46] by rw [Tryz.params6]] at hA'
 obtain ⟨v1, v2, d1, d2, p1, p2, _, rfl, _, h1, h2⟩ := trodAll_two hA'
 obtain ⟨e1, e2, op, rfl, g1, g2⟩ := Go.Proofs.Cards.fill_shape h1
 have g3 := Go.Proofs.Cards.ints_shape h2
 have f1 : Go.Proofs.Cards.FitsC e1 := by
  rcases g1 with rfl | ⟨xs, ys, rfl, hz⟩
  · exact .inl rfl
  · exact .inr ⟨xs, ys, rfl, fun z h => ⟨fits_of (Nat.le_refl _) hbulk h (hz z h).1, (hz z h).2⟩⟩
 obtain ⟨fv, mv, k1, fs, fds, mks, a1, hfv, hmv, hF, n1, o1⟩ := Go.Proofs.Cards.abs_fill op f1 g2 (h0 m u1 u2)
 obtain ⟨v, k2, l, a2, i2, n2, o2, _⟩ := Go.Fs.absArg_ints (P := Tryz.prog) (opq := fun _ => false) (f := 5) Tryz.underlying46 Tryz.underlying3 (by kernel_rfl) rfl g3 k1
 have ha : Go.Fs.absArgs Tryz.prog (fun _ => false) 7 Tryz.f6.params.toList [Go.Proofs.Cards.Fill.data e1 e2 op, d2] (h0 m u1 u2) = some ([.agg [fv, mv, .bool op], v], k2) := by
  rw [show Tryz.f6.params.toList = [45, 46] by rw [Tryz.params6]]
  simp only [Go.Fs.absArgs, a1, a2, Option.bind_some, Option.map_some]
 have gr : Go.Fs.Grown (h0 m u1 u2) k2 := ⟨Nat.le_trans n1 n2, fun b hb => by rw [o2 b (Nat.lt_of_lt_of_le hb n1), o1 b hb]⟩
 have hr := Go.Proofs.Cards.right_law (orc := orcK m) (op := op) (h0 := h0 m u1 u2) (none1 m) (none2 m) (none3 m) (none4 m) (none5 m) (trimsK m) gr hfv hmv (fun q1 q2 => (hF q1 q2).mono n2 o2) i2
  (fun h hg => Go.Fs.acall_oversI (orc := suits.orcT) (h0 := hJ m) (n := 300) (gs := [32]) (by kernel_rfl) (by kernel_rfl) (awake0 m) rfl rfl ((grow0 m u1 u2).of hg))
 refine (Go.Fs.law_laids mixed (by kernel_rfl) hA (fun j t v hj hv => hval j t v (by simpa using hj) (by simpa using hv)) e00 hL2 (g := 2) (g1 := 3) (g2 := 4) (of_decide_eq_true (by kernel_rfl)) (of_decide_eq_true (by kernel_rfl)) (of_decide_eq_true (by kernel_rfl)) hm hc1 hc2 hj1 hj2 (goodK m) ha hr).mono fun e W' ⟨he, hB⟩ => ?_
 exact ⟨_, he, Go.Fs.law_post (tb := 4) laidOut (by kernel_rfl) rfl Tryz.underlying4 rfl rfl hW hB⟩
theorem over : Rows.DeckRightUptoSaid :=
 OpenClaim.holds_of_cond 6 Tryz.f6 rfl rfl rfl rfl rfl rfl rfl ⟨rfl, rfl, rfl, rfl, rfl⟩ rfl rfl rfl rfl rfl (by kernel_rfl) Tryz.func6 (by kernel_rfl)
  (of_decide_eq_true (by kernel_rfl)) (by unfold Func.isWrapper; first | (rw [if_pos (by decide +kernel)]; kernel_rfl) | (rw [if_neg (by decide +kernel)]; exact ⟨rfl, rfl⟩))
  (fun os started H enc _ F => by rw [OpenClaim.pre_eq_preRow]; exact lifted os started H enc F)
theorem proved : Rows.DeckRightUptoCardSaid :=
 Claim7.holds_tied_plain_at .later [] [.data, .data, .data, .data, .sentinel, .sentinel, .pinned] true (true, "54f4b8457d0f3de25e5681ce09fd86c2bab101d75289a37130bddd80a16c5b4b") true over (fun _ h => by cases h) (by kernel_rfl) (fun _ h => by cases h) deckRightUpto_row_tie rfl ⟨rfl, rfl⟩ (by kernel_rfl) rfl
  (fun g fn hf hfn => by
    obtain rfl : g = 6 := Option.some.inj ((show Tryz.prog.funcNamed "gambit/gambitlaw16.DeckRight" = some 6 by kernel_rfl).symm.trans hf) |>.symm
    obtain rfl : fn = Tryz.f6 := (Option.some.inj (Tryz.func6.symm.trans hfn)).symm
    exact ⟨by kernel_rfl, fun j t ht => by
     rw [Tryz.params6] at ht
     match j with
     | 0 =>
       have e : (45 : TypeId) = t := Option.some.inj ht
       rw [← e]
       show Tryz.prog.wantsStandIn 45 = false
       kernel_rfl
     | 1 =>
       have e : (46 : TypeId) = t := Option.some.inj ht
       rw [← e]
       show Tryz.prog.wantsStandIn 46 = false
       kernel_rfl
     | j + 2 => simp at ht⟩)
  (by kernel_rfl)
#print axioms proved
end Go.Proofs.YtlppecefalblmaaGreatDoor.deckRight
