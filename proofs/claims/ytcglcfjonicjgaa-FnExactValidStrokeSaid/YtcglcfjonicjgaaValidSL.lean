/-
  A stroke by value is valid: the reference asks as of one in memory.
-/
import Derived.Test.YtcglcfjonicjgaaValidS
namespace Go.Proofs.Ytcglcfjonicjgaa
set_option linter.unusedSimpArgs false
set_option linter.unusedVariables false
open Go.RowKit

theorem sValidStroke_any (A : Option Addr) (n c : Nat) (xs : List Pt) (w : World) (ha : Rd w A n 3 (rowOf ptC xs)) (la : xs.length = n) (hn : n ≤ 1048576) :
    Calls Try.prog 21 #[.agg #[.slice A n c]] w fun e w' => e = .returned (.bool (strB xs)) ∧ Below w.heap.size w w' := by
  go_enter Try.func21, Try.ntmps21
  go_wp2_with fail
  refine (l02Stroke_any _ A n c xs _ (by go_simp) (ha.alloc _) la hn).mono ?_
  rintro e w2 ⟨rfl, hb⟩
  go_wp2_with fail
  go_ret
  exact ⟨rfl, Below.next (by go_grown) hb⟩
end Go.Proofs.Ytcglcfjonicjgaa
