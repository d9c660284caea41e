/- The law DeckNone answers true of every list and text: of no book nothing is asked of them; the rest is closed and run in the kernel over the variables that the row lists; then its tied card. -/
import Derived.Test.YtdehfehdaiappaaGreatDoorCards
import Derived.Test.YtdehfehdaiappaaGreatDoorTie
import Derived.WalkKit
import Derived.ProofKit
import Derived.OpenShut
import Derived.Lay
import Derived.SevenTiedAt
import Derived.Test.YtdehfehdaiappaaGreatDoorFsArgs
import Derived.Test.YtdehfehdaiappaaGreatDoorZdSeatOrc
namespace Go.Proofs.YtdehfehdaiappaaGreatDoor.deckNone
open Go.ChangeShapes Go.WideShapes Go.ChangeAt Go.RowKit
set_option linter.unusedVariables false

theorem own : ownKnob Tryz.prog.godebug = none := by kernel_rfl
theorem mixed : Tryz.prog.follows .mixedOrders = true := by kernel_rfl
theorem laidOut : laidOutB Tryz.prog = true := by kernel_rfl
/-- The closed part is run by the quick machine. -/
noncomputable abbrev orcN : Go.Fs.Orc := Go.Fs.orcQ Tryz.prog suits.orc 300 7
theorem goodN : Go.Fs.GoodOrc Tryz.prog orcN := Go.Fs.good_orcQ mixed suits.good 300 7

set_option maxRecDepth 100000 in
theorem ran0 (m : Int) (v : Go.Fs.AV) (s : List UInt8) : ((Go.Fs.absLaid Tryz.prog 40 Rows.deckNoneRow.laid (Go.Fs.start Tryz.prog.globals.size)).bind fun h => (Go.Fs.runO orcN (Go.Fs.tbl Tryz.prog) 60 3 [v, .str s] (h.set 3 (.cells [.int .i64 m] true))).map Prod.fst) = some (.bool true) := by kernel_rfl
set_option maxRecDepth 100000 in
theorem ran1 (m : Int) (v : Go.Fs.AV) (s : List UInt8) (blk : Go.Fs.Blk) : ((Go.Fs.absLaid Tryz.prog 40 Rows.deckNoneRow.laid (Go.Fs.start Tryz.prog.globals.size)).bind fun h => (Go.Fs.runO orcN (Go.Fs.tbl Tryz.prog) 60 3 [v, .str s] ((h.set 3 (.cells [.int .i64 m] true)).push blk)).map Prod.fst) = some (.bool true) := by kernel_rfl

set_option maxRecDepth 100000 in
theorem lifted (os : Os) (started : os.Started) (H : Type) (enc : TypeId × Value → H) :
    ReturnsInHanded {} Tryz.checked os 3 .any (fun w args => (Rows.deckNoneSpec.pre enc Tryz.prog Tryz.f3 [] false w args ∧ laidMetH Tryz.prog Rows.deckNoneRow.laid w) ∧ sizedMet enc Tryz.prog Tryz.f3 (OpenSpec.ofChange Rows.deckNoneSpec) false w args)
      (Rows.deckNoneSpec.post enc Tryz.prog Tryz.f3 false true false false) := by
  refine Go.Fs.returns_args (C := Tryz.checked) (X := fun w => laidMetH Tryz.prog Rows.deckNoneRow.laid w) (fun _ _ hh h => h.of_heap hh) own started (by kernel_rfl) Tryz.func3
    (ChangeSpec.witness_shaped (enc := enc) (C := Tryz.checked) (os := os) (X := fun w _ => laidMetH Tryz.prog Rows.deckNoneRow.laid w) false (World.laidAll Tryz.prog os Rows.deckNoneRow.laid) #[.slice none 0 0, .string ⟨#[]⟩] 8 (World.laidAll_os _ _ _)
      (World.shaped_of_ZipB (by kernel_rfl) (by kernel_rfl)) (by kernel_rfl) (by kernel_rfl) (by kernel_rfl)
      (by rw [MakeChecks.laidMetH_plain _ _ _ (by kernel_rfl)]; exact laidMet_laidAll _ (by kernel_rfl) (by kernel_rfl))) ?_
  intro W base args ds gs before hval hW hL hsh hsz
  have hL2 : laidMet Tryz.prog Rows.deckNoneRow.laid W := by
    have h := hL
    rw [MakeChecks.laidMetH_plain _ _ _ (by kernel_rfl)] at h
    exact h
  obtain ⟨m, hm⟩ := Tryz.laysIndex.s1_3 W hsh
  have hW' := hW
  obtain ⟨p, q, hA, hV, he, _, _⟩ := hW'
  have hA' := hA
  rw [show Tryz.f3.params.toList = [22, 9] by rw [Tryz.params3]] at hA'
  obtain ⟨v1, v2, d1, d2, p1, p2, _, rfl, _, h1, h2⟩ := trodAll_two hA'
  have hd1 : d1 = .nil ∨ ∃ xs ys : List Int, d1 = .slice (xs.map fun n => .lit (.int .i64 n)) (ys.map fun n => .lit (.int .i64 n)) := by
    obtain ⟨fuel, h⟩ := h1
    rcases Go.Fs.trod_ints Tryz.underlying22 Tryz.underlying3 h with h | ⟨xs, ys, h, _⟩
    · exact .inl h
    · exact .inr ⟨xs, ys, h⟩
  have hd2 : ∃ bs : List UInt8, d2 = .lit (.string bs) := by
    obtain ⟨fuel, h⟩ := h2
    obtain ⟨bs, h3, _⟩ := Go.Fs.trod_string Tryz.underlying9 h
    exact ⟨bs, h3⟩
  obtain ⟨bs, rfl⟩ := hd2
  obtain ⟨h0, e0, _⟩ := Option.bind_eq_some_iff.1 (ran0 m (.bool true) [])
  obtain ⟨v, h', a1, a2⟩ := Go.Fs.absArg_row (P := Tryz.prog) (fuel := 2) Tryz.underlying22 Tryz.underlying3 (by kernel_rfl) hd1 (h0.set 3 (.cells [.int .i64 m] true))
  have ha : Go.Fs.absArgs Tryz.prog (fun _ => false) 4 Tryz.f3.params.toList [d1, .lit (.string bs)] (h0.set 3 (.cells [.int .i64 m] true)) = some ([v, .str bs], h') := by
    rw [show Tryz.f3.params.toList = [22, 9] by rw [Tryz.params3]]
    simp only [Go.Fs.absArgs, a1, Go.Fs.absArg_str (fuel := 3) Tryz.underlying9, Option.bind_some, Option.map_some]
  have hr : ∃ h2, Go.Fs.acall orcN (Go.Fs.tbl Tryz.prog) 3 [v, .str bs] h' = some (.bool true, h2) := by
    rcases a2 with rfl | ⟨blk, rfl⟩
    · have hh := ran0 m v bs
      rw [e0, Option.bind_some] at hh
      obtain ⟨⟨x, h2⟩, g1, g2⟩ := Option.map_eq_some_iff.1 hh
      simp only at g2
      subst g2
      exact ⟨h2, Go.Fs.acall_of g1⟩
    · have hh := ran1 m v bs blk
      rw [e0, Option.bind_some] at hh
      obtain ⟨⟨x, h2⟩, g1, g2⟩ := Option.map_eq_some_iff.1 hh
      simp only at g2
      subst g2
      exact ⟨h2, Go.Fs.acall_of g1⟩
  obtain ⟨h2', hr⟩ := hr
  refine (Go.Fs.law_laid mixed goodN (by kernel_rfl) hA (fun j t v hj hv => hval j t v (by simpa using hj) (by simpa using hv)) e0 hL2 (g := 3) (of_decide_eq_true (by kernel_rfl)) hm ha hr).mono fun e W' ⟨he, hB⟩ => ?_
  exact ⟨_, he, Go.Fs.law_post (tb := 4) laidOut (by kernel_rfl) rfl Tryz.underlying4 rfl rfl hW hB⟩

theorem over : Rows.deckNoneRow.holds Tryz.pinned (OpenSpec.ofChange Rows.deckNoneSpec) :=
  OpenClaim.holds_of_wide 3 Tryz.f3 rfl rfl rfl rfl rfl rfl rfl ⟨rfl, rfl, rfl, rfl, rfl⟩ rfl rfl rfl rfl rfl (by kernel_rfl) Tryz.func3 (by kernel_rfl)
    (of_decide_eq_true (by kernel_rfl)) (by unfold Func.isWrapper; first | (rw [if_pos (by decide +kernel)]; kernel_rfl) | (rw [if_neg (by decide +kernel)]; exact ⟨rfl, rfl⟩))
    (fun os started H enc _ => lifted os started H enc)

/-- The statement. -/
theorem proved : Rows.DeckNoneCardSaid :=
  Claim7.holds_tied_plain_at .later [] [.data, .data, .data, .data, .sentinel, .sentinel, .pinned] true (true, "32f7d736994ab35d955e0fe48833ce20fa9b511e41617ac8723cd5db1750029d") true over (fun _ h => by cases h) (by kernel_rfl) (fun _ h => by cases h) deckNone_row_tie rfl ⟨rfl, rfl⟩ (by kernel_rfl) rfl
    (fun g fn hf hfn => by
      obtain rfl : g = 3 := Option.some.inj ((show Tryz.prog.funcNamed "gambit/gambitlaw16.DeckNone" = some 3 by kernel_rfl).symm.trans hf) |>.symm
      obtain rfl : fn = Tryz.f3 := (Option.some.inj (Tryz.func3.symm.trans hfn)).symm
      exact ⟨by kernel_rfl, fun j t ht => by
        rw [Tryz.params3] at ht
        match j with
        | 0 =>
          have e : (22 : TypeId) = t := Option.some.inj ht
          rw [← e]
          show Tryz.prog.wantsStandIn 22 = false
          kernel_rfl
        | 1 =>
          have e : (9 : TypeId) = t := Option.some.inj ht
          rw [← e]
          show Tryz.prog.wantsStandIn 9 = false
          kernel_rfl
        | j + 2 => simp at ht⟩)
    (by kernel_rfl)
#print axioms proved
end Go.Proofs.YtdehfehdaiappaaGreatDoor.deckNone
