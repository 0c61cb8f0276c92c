/-
  The law of ChecksumOf returns true: program and reference return the same checksum.
-/
import Derived.Test.YtgipnjjlpdcfoaaSum
namespace Go.Proofs.Ytgipnjjlpdcfoaa
open Go.RowKit
theorem law_ChecksumOf (s : ByteArray) (_ws : s.size ≤ maxLen) (w : World) :
    Calls Try.prog 4 #[.string s] w (Yes w) := by
  unfold maxLen at _ws
  by_cases h : s.size ≤ 1048576
  · go_enter Try.func4, Try.ntmps4
    go_wp2_with (first | (go_at_call 20; refine (l04Sum_any _ _ h).mono ?_; rintro e w' ⟨rfl, rfl⟩) | (go_at_call 10; refine (iChecksumOf _ _ h).mono ?_; rintro e w' ⟨rfl, hb⟩) | go_in)
    go_ret
    exact ⟨rfl, hb⟩
  · go_enter Try.func4, Try.ntmps4
    go_wp2_with fail
    go_ret
    exact ⟨rfl, Below.refl _ _⟩
end Go.Proofs.Ytgipnjjlpdcfoaa
