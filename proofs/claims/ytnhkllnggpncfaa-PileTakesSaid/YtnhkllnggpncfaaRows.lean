/-
  No cell of these rows narrows 'for every input' (looked for: loops, veiled, ifaces, maps, wideKeys, modest, calm, conditions, laid).
  DERIVED. THE GIVEN ROWS OF THIS SEAT. 10 by the template 'for every input the law returns true; each argument reads behind the call as it read before'; 0 by the template 'total and deterministic' (their statements: YtnhkllnggpncfaaTotals.lean).
  GIVEN WITH THE SEED: the statements are not yours to turn. If you find one false, say at which input.
  Laid BY PROGRAM, IN A SANDBOX (cutbox-rows.mjs): the forced cells as the released guide's own fill.sh prints them over the translation 35e0aec998df2c00… (all of the seat's roots in one cut). By AI agents, Wed Nov 11 2026. No macro, syntax, notation, axiom, sorry.
-/
import Derived.Test.YtnhkllnggpncfaaChecked
import GoSem.Claim
import GoSem.ClaimJoined
import GoSem.ClaimMapViews
import Derived.JoinedTies
import Derived.KernelRfl
namespace Go.Proofs.Ytnhkllnggpncfaa
/- THE CELL 'sum', in the pinned program and in every row, IS THE sha256 OF THE DUMP (.gsa) THAT YtnhkllnggpncfaaProg.lean LOADS. Nothing in Lean hashes anything: it is a label: what it is worth is what the hold of that sum in a sandbox is worth. -/
noncomputable def Try.pinned : Pinned := { name := "ytnhkllnggpncfaa", sum := "35e0aec998df2c00adfc954610d4d8a9cc7bcdd578425d91b7da34f6acb947f6", checked := Try.checked }
namespace Rows
def none {H : Type} : Left H := { results := [], args := [] }

/-- 'gambitlaw15.PileShuffles': WHATEVER THE INPUT: true; the input reads as it did. -/
def pileShufflesSpec : ChangeSpec := { name := "pileShuffles", fn := fun _ => fun
  | [d1, d2] => { results := [.lit (.bool true)], args := [d1, d2] }
  | _ => none }
def pileShufflesRow : OpenClaim := { program := "ytnhkllnggpncfaa", sum := "35e0aec998df2c00adfc954610d4d8a9cc7bcdd578425d91b7da34f6acb947f6", func := "gambit/gambitlaw15.PileShuffles", spec := "pileShuffles", apart := false }
def PileShufflesSaid : Prop := pileShufflesRow.holds Try.pinned (OpenSpec.ofChange pileShufflesSpec)

/-- ITS FALSE NEIGHBOUR: 'it returns false'. Refute it at one input. -/
def pileShufflesWrong : ChangeSpec := { name := "pileShuffles", fn := fun _ => fun
  | [d1, d2] => { results := [.lit (.bool false)], args := [d1, d2] }
  | _ => none }
def PileShufflesWrongFalsely : Prop := pileShufflesRow.holds Try.pinned (OpenSpec.ofChange pileShufflesWrong)

/-- 'gambitlaw28.JudgeScript': WHATEVER THE INPUT: true; the input reads as it did. -/
def judgeScriptSpec : ChangeSpec := { name := "judgeScript", fn := fun _ => fun
  | [d] => { results := [.lit (.bool true)], args := [d] }
  | _ => none }
def judgeScriptRow : OpenClaim := { program := "ytnhkllnggpncfaa", sum := "35e0aec998df2c00adfc954610d4d8a9cc7bcdd578425d91b7da34f6acb947f6", func := "gambit/gambitlaw28.JudgeScript", spec := "judgeScript", apart := false }
def JudgeScriptSaid : Prop := judgeScriptRow.holds Try.pinned (OpenSpec.ofChange judgeScriptSpec)

/-- ITS FALSE NEIGHBOUR: 'it returns false'. Refute it at one input. -/
def judgeScriptWrong : ChangeSpec := { name := "judgeScript", fn := fun _ => fun
  | [d] => { results := [.lit (.bool false)], args := [d] }
  | _ => none }
def JudgeScriptWrongFalsely : Prop := judgeScriptRow.holds Try.pinned (OpenSpec.ofChange judgeScriptWrong)

/-- 'gambitlaw06.CardSame': WHATEVER THE INPUT: true; the input reads as it did. -/
def cardSameSpec : ChangeSpec := { name := "cardSame", fn := fun _ => fun
  | [d1, d2] => { results := [.lit (.bool true)], args := [d1, d2] }
  | _ => none }
def cardSameRow : OpenClaim := { program := "ytnhkllnggpncfaa", sum := "35e0aec998df2c00adfc954610d4d8a9cc7bcdd578425d91b7da34f6acb947f6", func := "gambit/gambitlaw06.CardSame", spec := "cardSame", unfollowed := true, recurses := true, apart := false }
def CardSameSaid : Prop := cardSameRow.holds Try.pinned (OpenSpec.ofChange cardSameSpec)

/-- ITS FALSE NEIGHBOUR: 'it returns false'. Refute it at one input. -/
def cardSameWrong : ChangeSpec := { name := "cardSame", fn := fun _ => fun
  | [d1, d2] => { results := [.lit (.bool false)], args := [d1, d2] }
  | _ => none }
def CardSameWrongFalsely : Prop := cardSameRow.holds Try.pinned (OpenSpec.ofChange cardSameWrong)

/-- 'gambitlaw25.TurnRounds': WHATEVER THE INPUT: true; the input reads as it did. -/
def turnRoundsSpec : ChangeSpec := { name := "turnRounds", fn := fun _ => fun
  | [d1, d2, d3] => { results := [.lit (.bool true)], args := [d1, d2, d3] }
  | _ => none }
def turnRoundsRow : OpenClaim := { program := "ytnhkllnggpncfaa", sum := "35e0aec998df2c00adfc954610d4d8a9cc7bcdd578425d91b7da34f6acb947f6", func := "gambit/gambitlaw25.TurnRounds", spec := "turnRounds", apart := false }
def TurnRoundsSaid : Prop := turnRoundsRow.holds Try.pinned (OpenSpec.ofChange turnRoundsSpec)

/-- ITS FALSE NEIGHBOUR: 'it returns false'. Refute it at one input. -/
def turnRoundsWrong : ChangeSpec := { name := "turnRounds", fn := fun _ => fun
  | [d1, d2, d3] => { results := [.lit (.bool false)], args := [d1, d2, d3] }
  | _ => none }
def TurnRoundsWrongFalsely : Prop := turnRoundsRow.holds Try.pinned (OpenSpec.ofChange turnRoundsWrong)

/-- 'gambitlaw15.PileTakes': WHATEVER THE INPUT: true; the input reads as it did. -/
def pileTakesSpec : ChangeSpec := { name := "pileTakes", fn := fun _ => fun
  | [d1, d2, d3, d4, d5] => { results := [.lit (.bool true)], args := [d1, d2, d3, d4, d5] }
  | _ => none }
def pileTakesRow : OpenClaim := { program := "ytnhkllnggpncfaa", sum := "35e0aec998df2c00adfc954610d4d8a9cc7bcdd578425d91b7da34f6acb947f6", func := "gambit/gambitlaw15.PileTakes", spec := "pileTakes", apart := false }
def PileTakesSaid : Prop := pileTakesRow.holds Try.pinned (OpenSpec.ofChange pileTakesSpec)

/-- ITS FALSE NEIGHBOUR: 'it returns false'. Refute it at one input. -/
def pileTakesWrong : ChangeSpec := { name := "pileTakes", fn := fun _ => fun
  | [d1, d2, d3, d4, d5] => { results := [.lit (.bool false)], args := [d1, d2, d3, d4, d5] }
  | _ => none }
def PileTakesWrongFalsely : Prop := pileTakesRow.holds Try.pinned (OpenSpec.ofChange pileTakesWrong)

/-- 'gambitlaw15.PileNames': WHATEVER THE INPUT: true; the input reads as it did. -/
def pileNamesSpec : ChangeSpec := { name := "pileNames", fn := fun _ => fun
  | [] => { results := [.lit (.bool true)], args := [] }
  | _ => none }
def pileNamesRow : OpenClaim := { program := "ytnhkllnggpncfaa", sum := "35e0aec998df2c00adfc954610d4d8a9cc7bcdd578425d91b7da34f6acb947f6", func := "gambit/gambitlaw15.PileNames", spec := "pileNames", apart := false }
def PileNamesSaid : Prop := pileNamesRow.holds Try.pinned (OpenSpec.ofChange pileNamesSpec)

/-- ITS FALSE NEIGHBOUR: 'it returns false'. Refute it at one input. -/
def pileNamesWrong : ChangeSpec := { name := "pileNames", fn := fun _ => fun
  | [] => { results := [.lit (.bool false)], args := [] }
  | _ => none }
def PileNamesWrongFalsely : Prop := pileNamesRow.holds Try.pinned (OpenSpec.ofChange pileNamesWrong)

/-- 'gambitlaw15.PileOrder': WHATEVER THE INPUT: true; the input reads as it did. -/
def pileOrderSpec : ChangeSpec := { name := "pileOrder", fn := fun _ => fun
  | [d1, d2, d3, d4, d5] => { results := [.lit (.bool true)], args := [d1, d2, d3, d4, d5] }
  | _ => none }
def pileOrderRow : OpenClaim := { program := "ytnhkllnggpncfaa", sum := "35e0aec998df2c00adfc954610d4d8a9cc7bcdd578425d91b7da34f6acb947f6", func := "gambit/gambitlaw15.PileOrder", spec := "pileOrder", apart := false }
def PileOrderSaid : Prop := pileOrderRow.holds Try.pinned (OpenSpec.ofChange pileOrderSpec)

/-- ITS FALSE NEIGHBOUR: 'it returns false'. Refute it at one input. -/
def pileOrderWrong : ChangeSpec := { name := "pileOrder", fn := fun _ => fun
  | [d1, d2, d3, d4, d5] => { results := [.lit (.bool false)], args := [d1, d2, d3, d4, d5] }
  | _ => none }
def PileOrderWrongFalsely : Prop := pileOrderRow.holds Try.pinned (OpenSpec.ofChange pileOrderWrong)

/-- 'gambitlaw25.TurnAll': WHATEVER THE INPUT: true; the input reads as it did. -/
def turnAllSpec : ChangeSpec := { name := "turnAll", fn := fun _ => fun
  | [d1, d2, d3] => { results := [.lit (.bool true)], args := [d1, d2, d3] }
  | _ => none }
def turnAllRow : OpenClaim := { program := "ytnhkllnggpncfaa", sum := "35e0aec998df2c00adfc954610d4d8a9cc7bcdd578425d91b7da34f6acb947f6", func := "gambit/gambitlaw25.TurnAll", spec := "turnAll", apart := false }
def TurnAllSaid : Prop := turnAllRow.holds Try.pinned (OpenSpec.ofChange turnAllSpec)

/-- ITS FALSE NEIGHBOUR: 'it returns false'. Refute it at one input. -/
def turnAllWrong : ChangeSpec := { name := "turnAll", fn := fun _ => fun
  | [d1, d2, d3] => { results := [.lit (.bool false)], args := [d1, d2, d3] }
  | _ => none }
def TurnAllWrongFalsely : Prop := turnAllRow.holds Try.pinned (OpenSpec.ofChange turnAllWrong)

/-- 'gambitlaw25.TurnMay': WHATEVER THE INPUT: true; the input reads as it did. -/
def turnMaySpec : ChangeSpec := { name := "turnMay", fn := fun _ => fun
  | [d1, d2, d3] => { results := [.lit (.bool true)], args := [d1, d2, d3] }
  | _ => none }
def turnMayRow : OpenClaim := { program := "ytnhkllnggpncfaa", sum := "35e0aec998df2c00adfc954610d4d8a9cc7bcdd578425d91b7da34f6acb947f6", func := "gambit/gambitlaw25.TurnMay", spec := "turnMay", apart := false }
def TurnMaySaid : Prop := turnMayRow.holds Try.pinned (OpenSpec.ofChange turnMaySpec)

/-- ITS FALSE NEIGHBOUR: 'it returns false'. Refute it at one input. -/
def turnMayWrong : ChangeSpec := { name := "turnMay", fn := fun _ => fun
  | [d1, d2, d3] => { results := [.lit (.bool false)], args := [d1, d2, d3] }
  | _ => none }
def TurnMayWrongFalsely : Prop := turnMayRow.holds Try.pinned (OpenSpec.ofChange turnMayWrong)

/-- 'gambitlaw25.TurnKnown': WHATEVER THE INPUT: true; the input reads as it did. -/
def turnKnownSpec : ChangeSpec := { name := "turnKnown", fn := fun _ => fun
  | [] => { results := [.lit (.bool true)], args := [] }
  | _ => none }
def turnKnownRow : OpenClaim := { program := "ytnhkllnggpncfaa", sum := "35e0aec998df2c00adfc954610d4d8a9cc7bcdd578425d91b7da34f6acb947f6", func := "gambit/gambitlaw25.TurnKnown", spec := "turnKnown", apart := false }
def TurnKnownSaid : Prop := turnKnownRow.holds Try.pinned (OpenSpec.ofChange turnKnownSpec)

/-- ITS FALSE NEIGHBOUR: 'it returns false'. Refute it at one input. -/
def turnKnownWrong : ChangeSpec := { name := "turnKnown", fn := fun _ => fun
  | [] => { results := [.lit (.bool false)], args := [] }
  | _ => none }
def TurnKnownWrongFalsely : Prop := turnKnownRow.holds Try.pinned (OpenSpec.ofChange turnKnownWrong)

/- THE SECOND FORM. 'bulk': how many values and letters a reading holds, each counted each time it is reached (what is shared counts as often as it is met; a slice's spare places count too). A statement '..UptoSaid' is the law's where the arguments, and the package variables that the reading takes, are together of bulk at most 1048576: NARROWER than '..Said'. Prove '..Said' where nothing that the law and all that it calls make is longer than what came in: it says more and counts as full. Else prove '..UptoSaid'. A law counts once. -/
mutual
def uptoBulk {H : Type} : DataW H → Nat
  | .lit (.string bytes) => bytes.length + 1
  | .lit _ => 1
  | .nil => 1
  | .ptr d => uptoBulk d + 1
  | .slice elems spare => uptoBulkAll elems + uptoBulkAll spare + 1
  | .agg parts => uptoBulkAll parts + 1
  | .iface _ d => uptoBulk d + 1
  | .map entries => uptoBulkEntries entries + 1
  | .held _ => 1
def uptoBulkAll {H : Type} : List (DataW H) → Nat
  | [] => 0
  | d :: r => uptoBulk d + uptoBulkAll r
def uptoBulkEntries {H : Type} : List (Lit × DataW H) → Nat
  | [] => 0
  | x :: r => uptoBulkEntry x + uptoBulkEntries r
def uptoBulkEntry {H : Type} : Lit × DataW H → Nat
  | (.string bytes, d) => bytes.length + uptoBulk d + 1
  | (_, d) => uptoBulk d + 1
 end
def uptoSmall : (H : Type) → List (DataW H) → Bool := fun _ ds => decide (uptoBulkAll ds ≤ 1048576)
def OpenSpec.upto (s : _root_.Go.ChangeSpec) : _root_.Go.OpenSpec := { _root_.Go.OpenSpec.ofChange s with cond := some uptoSmall }

/-- 'gambitlaw15.PileShuffles', WHERE WHAT IT READS IS OF BULK AT MOST 1048576: true; the input reads as it did. -/
def pileShufflesUptoRow : OpenClaim := { program := "ytnhkllnggpncfaa", sum := "35e0aec998df2c00adfc954610d4d8a9cc7bcdd578425d91b7da34f6acb947f6", func := "gambit/gambitlaw15.PileShuffles", spec := "pileShuffles", apart := false, narrowed := true }
def PileShufflesUptoSaid : Prop := pileShufflesUptoRow.holds Try.pinned (OpenSpec.upto pileShufflesSpec)

/-- 'gambitlaw28.JudgeScript', WHERE WHAT IT READS IS OF BULK AT MOST 1048576: true; the input reads as it did. -/
def judgeScriptUptoRow : OpenClaim := { program := "ytnhkllnggpncfaa", sum := "35e0aec998df2c00adfc954610d4d8a9cc7bcdd578425d91b7da34f6acb947f6", func := "gambit/gambitlaw28.JudgeScript", spec := "judgeScript", apart := false, narrowed := true }
def JudgeScriptUptoSaid : Prop := judgeScriptUptoRow.holds Try.pinned (OpenSpec.upto judgeScriptSpec)

/-- 'gambitlaw06.CardSame', WHERE WHAT IT READS IS OF BULK AT MOST 1048576: true; the input reads as it did. -/
def cardSameUptoRow : OpenClaim := { program := "ytnhkllnggpncfaa", sum := "35e0aec998df2c00adfc954610d4d8a9cc7bcdd578425d91b7da34f6acb947f6", func := "gambit/gambitlaw06.CardSame", spec := "cardSame", unfollowed := true, recurses := true, apart := false, narrowed := true }
def CardSameUptoSaid : Prop := cardSameUptoRow.holds Try.pinned (OpenSpec.upto cardSameSpec)

/-- 'gambitlaw25.TurnRounds', WHERE WHAT IT READS IS OF BULK AT MOST 1048576: true; the input reads as it did. -/
def turnRoundsUptoRow : OpenClaim := { program := "ytnhkllnggpncfaa", sum := "35e0aec998df2c00adfc954610d4d8a9cc7bcdd578425d91b7da34f6acb947f6", func := "gambit/gambitlaw25.TurnRounds", spec := "turnRounds", apart := false, narrowed := true }
def TurnRoundsUptoSaid : Prop := turnRoundsUptoRow.holds Try.pinned (OpenSpec.upto turnRoundsSpec)

/-- 'gambitlaw15.PileTakes', WHERE WHAT IT READS IS OF BULK AT MOST 1048576: true; the input reads as it did. -/
def pileTakesUptoRow : OpenClaim := { program := "ytnhkllnggpncfaa", sum := "35e0aec998df2c00adfc954610d4d8a9cc7bcdd578425d91b7da34f6acb947f6", func := "gambit/gambitlaw15.PileTakes", spec := "pileTakes", apart := false, narrowed := true }
def PileTakesUptoSaid : Prop := pileTakesUptoRow.holds Try.pinned (OpenSpec.upto pileTakesSpec)

/-- 'gambitlaw15.PileNames', WHERE WHAT IT READS IS OF BULK AT MOST 1048576: true; the input reads as it did. -/
def pileNamesUptoRow : OpenClaim := { program := "ytnhkllnggpncfaa", sum := "35e0aec998df2c00adfc954610d4d8a9cc7bcdd578425d91b7da34f6acb947f6", func := "gambit/gambitlaw15.PileNames", spec := "pileNames", apart := false, narrowed := true }
def PileNamesUptoSaid : Prop := pileNamesUptoRow.holds Try.pinned (OpenSpec.upto pileNamesSpec)

/-- 'gambitlaw15.PileOrder', WHERE WHAT IT READS IS OF BULK AT MOST 1048576: true; the input reads as it did. -/
def pileOrderUptoRow : OpenClaim := { program := "ytnhkllnggpncfaa", sum := "35e0aec998df2c00adfc954610d4d8a9cc7bcdd578425d91b7da34f6acb947f6", func := "gambit/gambitlaw15.PileOrder", spec := "pileOrder", apart := false, narrowed := true }
def PileOrderUptoSaid : Prop := pileOrderUptoRow.holds Try.pinned (OpenSpec.upto pileOrderSpec)

/-- 'gambitlaw25.TurnAll', WHERE WHAT IT READS IS OF BULK AT MOST 1048576: true; the input reads as it did. -/
def turnAllUptoRow : OpenClaim := { program := "ytnhkllnggpncfaa", sum := "35e0aec998df2c00adfc954610d4d8a9cc7bcdd578425d91b7da34f6acb947f6", func := "gambit/gambitlaw25.TurnAll", spec := "turnAll", apart := false, narrowed := true }
def TurnAllUptoSaid : Prop := turnAllUptoRow.holds Try.pinned (OpenSpec.upto turnAllSpec)

/-- 'gambitlaw25.TurnMay', WHERE WHAT IT READS IS OF BULK AT MOST 1048576: true; the input reads as it did. -/
def turnMayUptoRow : OpenClaim := { program := "ytnhkllnggpncfaa", sum := "35e0aec998df2c00adfc954610d4d8a9cc7bcdd578425d91b7da34f6acb947f6", func := "gambit/gambitlaw25.TurnMay", spec := "turnMay", apart := false, narrowed := true }
def TurnMayUptoSaid : Prop := turnMayUptoRow.holds Try.pinned (OpenSpec.upto turnMaySpec)

/-- 'gambitlaw25.TurnKnown', WHERE WHAT IT READS IS OF BULK AT MOST 1048576: true; the input reads as it did. -/
def turnKnownUptoRow : OpenClaim := { program := "ytnhkllnggpncfaa", sum := "35e0aec998df2c00adfc954610d4d8a9cc7bcdd578425d91b7da34f6acb947f6", func := "gambit/gambitlaw25.TurnKnown", spec := "turnKnown", apart := false, narrowed := true }
def TurnKnownUptoSaid : Prop := turnKnownUptoRow.holds Try.pinned (OpenSpec.upto turnKnownSpec)

end Rows
end Go.Proofs.Ytnhkllnggpncfaa
