/- The reference's print of a part. -/
import Derived.Test.YtlppecefalblmaaGreatDoorFz05
import Derived.Test.YtlppecefalblmaaGreatDoorZtEfPrint
import Derived.Test.YtlppecefalblmaaGreatDoorZtEfRef
import Derived.Test.YtlppecefalblmaaGreatDoorFz05
import Derived.Lib.Join
import Derived.Lib.Fields
namespace Go.Proofs.Ef
open Go Go.Fs
set_option linter.unusedSimpArgs false
set_option linter.unusedVariables false
variable {orc : Orc}
end Go.Proofs.Ef
