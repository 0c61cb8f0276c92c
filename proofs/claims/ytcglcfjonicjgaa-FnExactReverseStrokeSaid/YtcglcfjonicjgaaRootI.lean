/-
  The integer root by Newton's steps.
-/
import Derived.Test.YtcglcfjonicjgaaRoot
import Derived.Test.YtcglcfjonicjgaaShelf
import Derived.Lib.BitFns
namespace Go.Proofs.Ytcglcfjonicjgaa
set_option linter.unusedSimpArgs false
set_option linter.unusedVariables false
open Go.RowKit

theorem bitLenAux_lt : ∀ (f x : Nat), x < 2 ^ f → x < 2 ^ Lib.bitLenAux f x
  | 0, x, h => by simpa [Lib.bitLenAux] using h
  | f + 1, x, h => by
    unfold Lib.bitLenAux
    split
    · omega
    · have ih := bitLenAux_lt f (x / 2) (by rw [Nat.pow_succ] at h; omega)
      rw [Nat.add_comm, Nat.pow_succ]
      omega
theorem bitLen_lt (x : Nat) (h : x < 2 ^ 64) : x < 2 ^ Lib.bitLen x := bitLenAux_lt 64 x h

theorem len64_any (x : Int) (w : World) (h0 : 0 ≤ x) (h1 : x ≤ 1000000000000000) :
    ∃ L : Nat, L ≤ 50 ∧ x < 2 ^ L ∧ Calls Try.prog 99 #[.int .u64 x] w fun e w' => e = .returned (.int .i64 L) ∧ w = w' := by
  refine ⟨Lib.bitLen x.toNat, Lib.bitLen_le _ 50 (by omega) (by omega), ?_, (Try.bits_Len64 x w h0 (by omega)).mono fun _ _ h => ⟨h.1, h.2.symm⟩⟩
  have := bitLen_lt x.toNat (by omega)
  have e : ((x.toNat : Nat) : Int) = x := Int.toNat_of_nonneg h0
  rw [← e]
  exact_mod_cast this

theorem start_is {n : Int} {L : Nat} (hL : L ≤ 50) (hn : n < 2 ^ L) :
    1 ≤ wrap64 (2 ^ ((L + 1) / 2)) ∧ wrap64 (2 ^ ((L + 1) / 2)) ≤ 33554432 ∧ n < (wrap64 (2 ^ ((L + 1) / 2)) + 1) * (wrap64 (2 ^ ((L + 1) / 2)) + 1) := by
  have hk : (L + 1) / 2 ≤ 25 := by omega
  have hk2 : L ≤ (L + 1) / 2 + (L + 1) / 2 := by omega
  generalize (L + 1) / 2 = k at *
  have p1 : 1 ≤ 2 ^ k := Nat.one_le_two_pow
  have p2 : 2 ^ k ≤ 33554432 := Nat.pow_le_pow_right (n := 2) (by omega) hk
  have p3 : 2 ^ L ≤ 2 ^ (k + k) := Nat.pow_le_pow_right (by omega) hk2
  rw [Nat.pow_add] at p3
  have e : (2 : Int) ^ k = ((2 ^ k : Nat) : Int) := by simp
  have e' : (2 : Int) ^ L = ((2 ^ L : Nat) : Int) := by simp
  rw [e]
  rw [e'] at hn
  have p4 := Int.ofNat_le.2 p3
  rw [Int.natCast_mul] at p4
  generalize 2 ^ k = m at *
  rw [IntWalk.wrap64_in _ ⟨by omega, by omega⟩]
  have h := sq_le (a := (m : Int)) (b := (m : Int) + 1) (by omega) (by omega)
  exact ⟨by omega, by omega, by omega⟩

set_option maxHeartbeats 1000000 in
theorem rootOf_pos (n : Int) (w : World) (h0 : 1 ≤ n) (h1 : n ≤ 1000000000000000) :
    Calls Try.prog 92 #[.int .i64 n] w fun e w' => e = .returned (.int .i64 (rootI n)) ∧ w = w' := by
  have hz : (n == 0) = false := by simp; omega
  obtain ⟨L, hL, hn, hc⟩ := len64_any n w (by omega) h1
  obtain ⟨hr1, hr2, hr3⟩ := start_is hL hn
  have HC := Lib.hid hc
  have HR : Hid (n < (wrap64 (2 ^ ((L + 1) / 2)) + 1) * (wrap64 (2 ^ ((L + 1) / 2)) + 1)) := hr3
  have hq0 := newton_quot (r := wrap64 (2 ^ ((L + 1) / 2))) (by omega) (by omega : 0 ≤ n) h1
  have hp0 := newton_pos (r := wrap64 (2 ^ ((L + 1) / 2))) (n := n) (by omega) h0
  clear hc hn hr3
  go_enter Try.func92, Try.ntmps92
  go_wp2_with fail
  refine HC.out.mono ?_
  rintro e w' ⟨rfl, rfl⟩
  go_wp2_with fail
  go_loop [3, 4] (fun a b => ∃ r : Int, a = .int .i64 r ∧ b = .int .i64 ((r + n / r) / 2) ∧ 1 ≤ r ∧ r ≤ 33554432 ∧ Hid (n < (r + 1) * (r + 1))) (fun a _ => (intOf a).toNat)
  case atStart => exact ⟨_, rfl, rfl, hr1, hr2, HR⟩
  case round =>
    obtain ⟨r, rfl, rfl, g1, g2, hi⟩ := hrel
    have hp := newton_pos (r := r) (n := n) (by omega) h0
    have hq := newton_quot (r := r) (by omega) (by omega : 0 ≤ n) h1
    have hu : Hid (n < ((r + n / r) / 2 + 1) * ((r + n / r) / 2 + 1)) := newton_up (by omega)
    by_cases hlt : (r + n / r) / 2 < r
    · obtain ⟨s, hs⟩ : ∃ s, s = (r + n / r) / 2 := ⟨_, rfl⟩
      rw [← hs] at hp hu hlt ⊢
      have hp2 := newton_pos (r := s) (n := n) (by omega) h0
      have hq2 := newton_quot (r := s) (by omega) (by omega : 0 ≤ n) h1
      clear hs
      go_wp2_with fail
      go_round
      case rel => exact ⟨s, rfl, rfl, by omega, by omega, hu⟩
      case measure => simp [intOf]; omega
    · have hst := newton_stop (r := r) (n := n) (by omega) (by omega)
      have HS : Hid (r * r ≤ n) := hst
      clear hst
      go_wp2_with fail
      go_ret
      exact ⟨ret_int (root_eq (by omega) HS.out hi.out), rfl⟩

theorem rootI_zero : rootI 0 = 0 := rfl
theorem rootOf_any (n : Int) (w : World) (h0 : 0 ≤ n) (h1 : n ≤ 1000000000000000) :
    Calls Try.prog 92 #[.int .i64 n] w fun e w' => e = .returned (.int .i64 (rootI n)) ∧ w = w' := by
  rcases Int.lt_or_le 0 n with h | h
  · exact rootOf_pos n w (by omega) h1
  · obtain rfl : n = 0 := by omega
    go_enter Try.func92, Try.ntmps92
    go_wp2_with fail
    go_ret
    exact ⟨rfl, rfl⟩
end Go.Proofs.Ytcglcfjonicjgaa
