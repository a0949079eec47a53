/- The walk of the document's sum. -/
import Derived.Test.YtnhdefaagicejaaDoorOps
import Derived.Test.YtnhdefaagicejaaDoorCrcP
namespace Go.Proofs.YtnhdefaagicejaaDoor
set_option linter.unusedSimpArgs false
set_option linter.unusedVariables false
open Go.RowKit

end Go.Proofs.YtnhdefaagicejaaDoor
