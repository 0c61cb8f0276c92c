/-
  The small tests of program and reference: a number within bounds, a small letter, a digit, a valid box.
-/
import Derived.Test.YtinlhigpmchiaaaGreatDoorBase
namespace Go.Proofs.YtinlhigpmchiaaaGreatDoor
set_option linter.unusedSimpArgs false
set_option linter.unusedVariables false
open Go.RowKit

/-- low ≤ n ≤ high -/
def inB (n low high : Int) : Bool := decide (low ≤ n ∧ n ≤ high)
theorem inB_true {n low high : Int} (h : inB n low high = true) : low ≤ n ∧ n ≤ high := of_decide_eq_true h
theorem inB_false {n low high : Int} (h : inB n low high = false) : ¬ (low ≤ n ∧ n ≤ high) := of_decide_eq_false h
theorem inB_mk {n low high : Int} (h : low ≤ n ∧ n ≤ high) : inB n low high = true := decide_eq_true h
theorem inB_not {n low high : Int} (h : ¬ (low ≤ n ∧ n ≤ high)) : inB n low high = false := decide_eq_false h

theorem within_any (n low high : Int) (w : World) :
    Calls Tryz.prog 77 #[.int .i64 n, .int .i64 low, .int .i64 high] w fun e w' => e = .returned (.bool (inB n low high)) ∧ w = w' := by
  by_cases h1 : low ≤ n <;> by_cases h2 : n ≤ high
  all_goals
    go_enter Tryz.func77, Tryz.ntmps77
    go_wp2
    go_ret
    exact ⟨ret_bool (by simp [inB, h1, h2]), rfl⟩

theorem l00In_any (n low high : Int) (w : World) :
    Calls Tryz.prog 53 #[.int .i64 n, .int .i64 low, .int .i64 high] w fun e w' => e = .returned (.bool (inB n low high)) ∧ w = w' := by
  by_cases h1 : low ≤ n <;> by_cases h2 : n ≤ high
  all_goals
    go_enter Tryz.func53, Tryz.ntmps53
    go_wp2
    go_ret
    exact ⟨ret_bool (by simp [inB, h1, h2]), rfl⟩
end Go.Proofs.YtinlhigpmchiaaaGreatDoor
