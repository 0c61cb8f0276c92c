/-
  The law of IsName returns true: program and reference answer alike.
-/
import Derived.Test.YtgipnjjlpdcfoaaName
namespace Go.Proofs.Ytgipnjjlpdcfoaa
set_option linter.unusedSimpArgs false
set_option linter.unusedVariables false
open Go.RowKit
theorem law_IsName (s : ByteArray) (_ws : s.size ≤ maxLen) (w : World) :
    Calls Try.prog 8 #[.string s] w (Yes w) := by
  unfold maxLen at _ws
  by_cases h : s.size ≤ 1048576
  · go_enter Try.func8, Try.ntmps8
    go_wp2_with (first | (go_at_call 18; refine (sIsName _ _ h).mono ?_; rintro e w' ⟨rfl, rfl⟩) | (go_at_call 19; refine (iIsName _ _ h).mono ?_; rintro e w' ⟨rfl, hb⟩))
    go_ret
    exact ⟨rfl, hb⟩
  · go_enter Try.func8, Try.ntmps8
    go_wp2_with fail
    go_ret
    exact ⟨rfl, Below.refl _ _⟩
end Go.Proofs.Ytgipnjjlpdcfoaa
