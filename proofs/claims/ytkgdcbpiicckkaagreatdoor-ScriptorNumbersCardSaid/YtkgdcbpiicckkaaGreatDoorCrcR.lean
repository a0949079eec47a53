/- The walk of the document's sum. -/
import Derived.Test.YtkgdcbpiicckkaaGreatDoorOps
import Derived.Test.YtkgdcbpiicckkaaGreatDoorCrcP
namespace Go.Proofs.YtkgdcbpiicckkaaGreatDoor
set_option linter.unusedSimpArgs false
set_option linter.unusedVariables false
open Go.RowKit

end Go.Proofs.YtkgdcbpiicckkaaGreatDoor
