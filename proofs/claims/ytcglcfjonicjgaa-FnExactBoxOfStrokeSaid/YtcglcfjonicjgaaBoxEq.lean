/-
  A box is equal to itself by the law's comparison.
-/
import Derived.Test.YtcglcfjonicjgaaBoxes
namespace Go.Proofs.Ytcglcfjonicjgaa
set_option linter.unusedSimpArgs false
set_option linter.unusedVariables false
open Go.RowKit

theorem eqBox_same (b : Bx) (w : World) :
    Calls Try.prog 34 #[.agg #[.int .i64 b.x1, .int .i64 b.y1, .int .i64 b.x2, .int .i64 b.y2], .agg #[.int .i64 b.x1, .int .i64 b.y1, .int .i64 b.x2, .int .i64 b.y2]] w fun e w' => e = .returned (.bool true) ∧ Below w.heap.size w w' := by
  go_enter Try.func34, Try.ntmps34
  go_wp2
  go_ret
  exact ⟨rfl, by go_grown⟩
end Go.Proofs.Ytcglcfjonicjgaa
