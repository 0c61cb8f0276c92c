/-
  The law of IsWord returns true: program and reference answer alike.
-/
import Derived.Test.YtgipnjjlpdcfoaaWord
namespace Go.Proofs.Ytgipnjjlpdcfoaa
set_option linter.unusedSimpArgs false
set_option linter.unusedVariables false
open Go.RowKit
theorem law_IsWord (s : ByteArray) (_ws : s.size ≤ maxLen) (w : World) :
    Calls Try.prog 7 #[.string s] w (Yes w) := by
  unfold maxLen at _ws
  by_cases h : s.size ≤ 1048576
  · go_enter Try.func7, Try.ntmps7
    go_wp2_with (first | (go_at_call 16; refine (sIsWord _ _ h).mono ?_; rintro e w' ⟨rfl, rfl⟩) | (go_at_call 17; refine (iIsWord _ _ h).mono ?_; rintro e w' ⟨rfl, hb⟩))
    go_ret
    exact ⟨rfl, hb⟩
  · go_enter Try.func7, Try.ntmps7
    go_wp2_with fail
    go_ret
    exact ⟨rfl, Below.refl _ _⟩
end Go.Proofs.Ytgipnjjlpdcfoaa
