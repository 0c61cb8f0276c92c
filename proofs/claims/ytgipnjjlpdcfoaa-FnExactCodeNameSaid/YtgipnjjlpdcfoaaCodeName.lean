/-
  The law of CodeName returns true: program and reference name the same eleven codes.
-/
import Derived.Test.YtgipnjjlpdcfoaaSmall
namespace Go.Proofs.Ytgipnjjlpdcfoaa
set_option linter.unusedSimpArgs false
set_option linter.unusedVariables false
open Go.RowKit
def InCodes (n : Int) : Prop := n = 0 ∨ n = 1 ∨ n = 2 ∨ n = 3 ∨ n = 4 ∨ n = 5 ∨ n = 6 ∨ n = 7 ∨ n = 8 ∨ n = 9 ∨ n = 10
set_option maxHeartbeats 4000000 in
theorem law_CodeName (n : Int) (_wn : (Lit.int .i64 n).wf = true) (w : World) :
    Calls Try.prog 5 #[.int .i64 n] w (Yes w) := by
  have hx := bounds_i64 _wn
  by_cases h : 0 ≤ n ∧ n ≤ 10
  · have hc : InCodes n := by unfold InCodes; omega
    rcases hc with rfl | rfl | rfl | rfl | rfl | rfl | rfl | rfl | rfl | rfl | rfl
    all_goals
      go_enter Try.func5, Try.ntmps5
      go_wp2
      go_ret
      exact ⟨rfl, by go_grown⟩
  · have hb : inB n 0 10 = false := inB_not h
    by_cases h0 : n < 0
    all_goals
      go_enter Try.func5, Try.ntmps5
      go_wp2_with (first | (go_at_call 21; refine (l00In_any _ _ _ _).mono ?_; rintro e w' ⟨rfl, rfl⟩) | go_in)
      go_ret
      exact ⟨rfl, by go_grown⟩
end Go.Proofs.Ytgipnjjlpdcfoaa
