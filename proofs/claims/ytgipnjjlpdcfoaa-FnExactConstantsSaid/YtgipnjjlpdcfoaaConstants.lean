/-
  The law of Constants returns true: every constant has the value of the document.
-/
import Derived.Test.YtgipnjjlpdcfoaaBase
namespace Go.Proofs.Ytgipnjjlpdcfoaa
set_option linter.unusedSimpArgs false
set_option linter.unusedVariables false
open Go.RowKit
theorem law_Constants (w : World) : Calls Try.prog 3 #[] w (Yes w) := by
  go_enter Try.func3, Try.ntmps3
  go_wp2
  go_ret
  exact ⟨rfl, Below.refl _ _⟩
end Go.Proofs.Ytgipnjjlpdcfoaa
