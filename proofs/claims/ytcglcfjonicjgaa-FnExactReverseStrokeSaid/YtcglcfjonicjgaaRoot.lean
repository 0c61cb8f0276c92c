/-
  The integer root: bisection (reference) and Newton's steps (program) both return it.
-/
import Derived.Test.YtcglcfjonicjgaaRootPlain
import Derived.Test.YtcglcfjonicjgaaSmall
namespace Go.Proofs.Ytcglcfjonicjgaa
set_option linter.unusedSimpArgs false
set_option linter.unusedVariables false
open Go.RowKit

set_option maxHeartbeats 1000000 in
theorem l05Root_any (n : Int) (w : World) (h0 : 0 ≤ n) (h1 : n ≤ 1000000000000000) :
    Calls Try.prog 96 #[.int .i64 n] w fun e w' => e = .returned (.int .i64 (rootI n)) ∧ w = w' := by
  go_enter Try.func96, Try.ntmps96
  go_wp2
  go_loop [3, 4, 5] (fun lo hi _ => ∃ l h : Int, lo = .int .i64 l ∧ hi = .int .i64 h ∧ 0 ≤ l ∧ l ≤ h ∧ h ≤ 40000000 ∧ Hid (l * l ≤ n ∧ n < (h + 1) * (h + 1))) (fun lo hi _ => (intOf hi - intOf lo).toNat)
  case atStart => exact ⟨0, 40000000, rfl, rfl, by omega, by omega, by omega, ⟨by omega, by omega⟩⟩
  case round =>
    obtain ⟨l, h, rfl, rfl, hl, hh, hM, hi⟩ := hrel
    by_cases hlt : l < h
    · have hm : 0 ≤ (l + h + 1) / 2 ∧ (l + h + 1) / 2 ≤ 40000000 := by omega
      have hm2 : 0 ≤ (l + h + 1) / 2 * ((l + h + 1) / 2) := Int.mul_nonneg hm.1 hm.1
      have hm3 : (l + h + 1) / 2 * ((l + h + 1) / 2) ≤ 1600000000000000 := sq_le (b := 40000000) hm.1 hm.2
      cases hc : decide ((l + h + 1) / 2 * ((l + h + 1) / 2) ≤ n)
      · go_wp2
        simp at hc
        go_round
        case rel => exact ⟨l, (l + h + 1) / 2 - 1, rfl, rfl, hl, by omega, by omega, ⟨hi.out.1, by rw [Int.sub_add_cancel]; exact hc⟩⟩
        case measure => simp [intOf]; omega
      · go_wp2
        simp at hc
        go_round
        case rel => exact ⟨(l + h + 1) / 2, h, rfl, rfl, by omega, by omega, hM, ⟨hc, hi.out.2⟩⟩
        case measure => simp [intOf]; omega
    · obtain rfl : l = h := by omega
      go_wp2
      go_ret
      exact ⟨ret_int (root_eq hl hi.out.1 hi.out.2), rfl⟩
end Go.Proofs.Ytcglcfjonicjgaa
