/-
  The integer root by Newton's steps.
-/
import Derived.Test.YtnmmnikoogjhoaaRoot
import Derived.Test.YtnmmnikoogjhoaaShelf
import Derived.Lib.BitFns
namespace Go.Proofs.Ytnmmnikoogjhoaa
set_option linter.unusedSimpArgs false
set_option linter.unusedVariables false
set_option maxRecDepth 20000
open Go.RowKit

theorem bitLenAux_lt : ∀ (f x : Nat), x < 2 ^ f → x < 2 ^ Lib.bitLenAux f x
  | 0, x, h => by simpa [Lib.bitLenAux] using h
  | f + 1, x, h => by
    unfold Lib.bitLenAux
    split
    · omega
    · have ih := bitLenAux_lt f (x / 2) (by rw [Nat.pow_succ] at h; omega)
      rw [Nat.add_comm, Nat.pow_succ]
      omega
theorem bitLen_lt (x : Nat) (h : x < 2 ^ 64) : x < 2 ^ Lib.bitLen x := bitLenAux_lt 64 x h

theorem start_is {n : Int} {L : Nat} (hL : L ≤ 50) (hn : n < 2 ^ L) :
    1 ≤ wrap64 (2 ^ ((L + 1) / 2)) ∧ wrap64 (2 ^ ((L + 1) / 2)) ≤ 33554432 ∧ n < (wrap64 (2 ^ ((L + 1) / 2)) + 1) * (wrap64 (2 ^ ((L + 1) / 2)) + 1) := by
  have hk : (L + 1) / 2 ≤ 25 := by omega
  have hk2 : L ≤ (L + 1) / 2 + (L + 1) / 2 := by omega
  generalize (L + 1) / 2 = k at *
  have p1 : 1 ≤ 2 ^ k := Nat.one_le_two_pow
  have p2 : 2 ^ k ≤ 33554432 := Nat.pow_le_pow_right (n := 2) (by omega) hk
  have p3 : 2 ^ L ≤ 2 ^ (k + k) := Nat.pow_le_pow_right (by omega) hk2
  rw [Nat.pow_add] at p3
  have e : (2 : Int) ^ k = ((2 ^ k : Nat) : Int) := by simp
  have e' : (2 : Int) ^ L = ((2 ^ L : Nat) : Int) := by simp
  rw [e]
  rw [e'] at hn
  have p4 := Int.ofNat_le.2 p3
  rw [Int.natCast_mul] at p4
  generalize 2 ^ k = m at *
  rw [IntWalk.wrap64_in _ ⟨by omega, by omega⟩]
  have h := sq_le (a := (m : Int)) (b := (m : Int) + 1) (by omega) (by omega)
  exact ⟨by omega, by omega, by omega⟩

theorem rootI_zero : rootI 0 = 0 := rfl
end Go.Proofs.Ytnmmnikoogjhoaa
