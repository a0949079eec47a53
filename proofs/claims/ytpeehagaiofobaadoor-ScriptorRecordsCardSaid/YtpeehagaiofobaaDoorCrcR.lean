/- The walk of the document's sum. -/
import Derived.Test.YtpeehagaiofobaaDoorOps
import Derived.Test.YtpeehagaiofobaaDoorCrcP
namespace Go.Proofs.YtpeehagaiofobaaDoor
open Go.RowKit

end Go.Proofs.YtpeehagaiofobaaDoor
