/-
  A box is equal to itself by the law's comparison.
-/
import Derived.Test.YtnmmnikoogjhoaaBoxes
namespace Go.Proofs.Ytnmmnikoogjhoaa
set_option linter.unusedSimpArgs false
set_option linter.unusedVariables false
set_option maxRecDepth 20000
open Go.RowKit

theorem eqBox_same (b : Bx) (w : World) :
    Calls Try.prog 22 #[.agg #[.int .i64 b.x1, .int .i64 b.y1, .int .i64 b.x2, .int .i64 b.y2], .agg #[.int .i64 b.x1, .int .i64 b.y1, .int .i64 b.x2, .int .i64 b.y2]] w fun e w' => e = .returned (.bool true) ∧ Below w.heap.size w w' := by
  go_enter Try.func22, Try.ntmps22
  go_wp2
  go_ret
  exact ⟨rfl, by go_grown⟩
end Go.Proofs.Ytnmmnikoogjhoaa
