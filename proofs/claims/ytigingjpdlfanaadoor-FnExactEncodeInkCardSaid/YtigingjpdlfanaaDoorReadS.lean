/-
  The number whose Rice code begins at an index, as the reference reads it.
-/
import Derived.Test.YtigingjpdlfanaaDoorRead
namespace Go.Proofs.YtigingjpdlfanaaDoor
set_option linter.unusedSimpArgs false
set_option linter.unusedVariables false
set_option maxRecDepth 20000
open Go.RowKit
open Go.ChangeShapes Go.WideShapes Go.Deep Go.Joins

end Go.Proofs.YtigingjpdlfanaaDoor
