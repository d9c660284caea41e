/- Small facts of texts, heaps and bytes. -/
import Derived.Test.YtlppecefalblmaaGreatDoorZtEfPrint
namespace Go.Proofs.Ef
open Go Go.Fs
set_option linter.unusedSimpArgs false
set_option linter.unusedVariables false
end Go.Proofs.Ef
