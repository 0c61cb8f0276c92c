/-
  The decimal digits of a number, in plain words.
-/
import Derived.Test.YtgpmlpneffbbbaaDoorBytes
import Derived.Lib.ItoaNum
namespace Go.Proofs.YtgpmlpneffbbbaaDoor
set_option linter.unusedSimpArgs false
set_option linter.unusedVariables false
set_option maxRecDepth 20000
open Go.RowKit

/-- the digits, none for 0 -/
def digs (m : Nat) : List UInt8 := if h : m = 0 then [] else digs (m / 10) ++ [UInt8.ofNat (48 + m % 10)]
termination_by m
decreasing_by omega
theorem digs_zero : digs 0 = [] := by rw [digs, dif_pos rfl]
theorem digs_pos {m : Nat} (h : 0 < m) : digs m = digs (m / 10) ++ [UInt8.ofNat (48 + m % 10)] := by rw [digs, dif_neg (by omega)]
theorem digs_lib {m : Nat} (h : 0 < m) : Lib.decDigits m = digs m := by
  induction m using Nat.strongRecOn with
  | _ m ih =>
    rw [Lib.decDigits, digs_pos h]
    by_cases h10 : m < 10
    · rw [dif_pos h10, show m / 10 = 0 by omega, digs_zero, Nat.mod_eq_of_lt h10]; rfl
    · rw [dif_neg h10, ih (m / 10) (by omega) (by omega)]
theorem itoa_zero : Lib.itoa 0 = [48] := by
  have h : Lib.itoa 0 = Lib.decDigits 0 := by unfold Lib.itoa; rfl
  rw [h, Lib.decDigits, dif_pos (by omega)]; rfl
theorem itoa_nat {m : Nat} (h : 0 < m) : Lib.itoa (m : Int) = digs m := by
  unfold Lib.itoa
  rw [if_neg (by omega), show ((m : Int)).toNat = m by omega, digs_lib h]
theorem itoa_neg {m : Nat} (h : 0 < m) : Lib.itoa (-(m : Int)) = 45 :: digs m := by
  unfold Lib.itoa
  rw [if_pos (by omega), show (-(m : Int)).natAbs = m by omega, digs_lib h]
theorem digs_len : ∀ (k m : Nat), m < 10 ^ k → (digs m).length ≤ k
  | 0, m, h => by
    have e : m = 0 := by simpa using h
    subst e; rw [digs_zero]; exact Nat.le_refl _
  | k + 1, m, h => by
    rcases Nat.eq_zero_or_pos m with e | e
    · subst e; rw [digs_zero]; simp
    · rw [digs_pos e, List.length_append]
      have := digs_len k (m / 10) (by rw [Nat.pow_succ] at h; omega)
      simp; omega
theorem dig_val (m : Nat) : ((UInt8.ofNat (48 + m % 10)).toNat : Int) = 48 + ((m % 10 : Nat) : Int) := by
  have h : m % 10 < 10 := Nat.mod_lt _ (by omega)
  rw [UInt8.toNat_ofNat']
  omega
end Go.Proofs.YtgpmlpneffbbbaaDoor
