/-
  The integer root: what bisection and Newton's steps come to, in plain numbers.
-/
import Derived.Test.YtnmmnikoogjhoaaBase
namespace Go.Proofs.Ytnmmnikoogjhoaa
set_option linter.unusedSimpArgs false
set_option linter.unusedVariables false
set_option maxRecDepth 20000
open Go.RowKit

def rootN : Nat → Nat
  | 0 => 0
  | n + 1 => if (rootN n + 1) * (rootN n + 1) ≤ n + 1 then rootN n + 1 else rootN n
theorem rootN_is : ∀ n : Nat, rootN n * rootN n ≤ n ∧ n < (rootN n + 1) * (rootN n + 1)
  | 0 => ⟨by simp [rootN], by simp [rootN]⟩
  | n + 1 => by
    have ih := rootN_is n
    rw [rootN]
    split
    · rename_i h
      refine ⟨h, ?_⟩
      have e : (rootN n + 1 + 1) * (rootN n + 1 + 1) = (rootN n + 1) * (rootN n + 1) + 2 * rootN n + 3 := by
        simp only [Nat.add_mul, Nat.mul_add]; omega
      omega
    · omega

def rootI (n : Int) : Int := (rootN n.toNat : Int)

theorem sq_le {a b : Int} (h0 : 0 ≤ a) (h : a ≤ b) : a * a ≤ b * b := Int.mul_le_mul h h h0 (by omega)

theorem root_one {n r s : Int} (h0 : 0 ≤ r) (h1 : r * r ≤ n) (h2 : n < (r + 1) * (r + 1)) (k0 : 0 ≤ s) (k1 : s * s ≤ n) (k2 : n < (s + 1) * (s + 1)) : r = s := by
  rcases Int.lt_trichotomy r s with h | h | h
  · have := sq_le (a := r + 1) (b := s) (by omega) (by omega)
    omega
  · exact h
  · have := sq_le (a := s + 1) (b := r) (by omega) (by omega)
    omega

theorem rootI_is {n : Int} (h : 0 ≤ n) : 0 ≤ rootI n ∧ rootI n * rootI n ≤ n ∧ n < (rootI n + 1) * (rootI n + 1) := by
  obtain ⟨a, b⟩ := rootN_is n.toNat
  have e : ((n.toNat : Nat) : Int) = n := Int.toNat_of_nonneg h
  refine ⟨Int.natCast_nonneg _, ?_, ?_⟩
  · have : ((rootN n.toNat * rootN n.toNat : Nat) : Int) ≤ (n.toNat : Nat) := by exact_mod_cast a
    rw [e, Int.natCast_mul] at this
    exact this
  · have : ((n.toNat : Nat) : Int) < ((rootN n.toNat + 1) * (rootN n.toNat + 1) : Nat) := by exact_mod_cast b
    rw [e, Int.natCast_mul, Int.natCast_add] at this
    exact this

theorem root_eq {n r : Int} (h0 : 0 ≤ r) (h1 : r * r ≤ n) (h2 : n < (r + 1) * (r + 1)) : r = rootI n := by
  have hn : 0 ≤ n := Int.le_trans (Int.mul_nonneg h0 h0) h1
  obtain ⟨a, b, c⟩ := rootI_is hn
  exact root_one h0 h1 h2 a b c

theorem rootI_le {n M : Int} (h : 0 ≤ n) (hM : 0 ≤ M) (hn : n ≤ M * M) : rootI n ≤ M := by
  obtain ⟨a, b, c⟩ := rootI_is h
  rcases Int.lt_or_le M (rootI n) with k | k
  · have := sq_le (a := M + 1) (b := rootI n) (by omega) (by omega)
    have e : (M + 1) * (M + 1) = M * M + 2 * M + 1 := by simp only [Int.add_mul, Int.mul_add]; omega
    omega
  · exact k

/-- one step of Newton's stays above the root -/
theorem newton_up {n r : Int} (hr : 0 < r) : n < ((r + n / r) / 2 + 1) * ((r + n / r) / 2 + 1) := by
  have hq : n < (n / r + 1) * r := Int.lt_ediv_add_one_mul_self n hr
  generalize n / r = q at *
  generalize hs : (r + q) / 2 = s at *
  have h2 : r + (q + 1) ≤ 2 * (s + 1) := by omega
  rcases Int.lt_or_le (r + (q + 1)) 0 with hneg | hpos
  · have h3 : (q + 1) * r ≤ 0 := by
      have : q + 1 ≤ 0 := by omega
      exact Int.mul_nonpos_of_nonpos_of_nonneg this (by omega)
    have : 0 ≤ (s + 1) * (s + 1) := by
      rcases Int.lt_or_le (s + 1) 0 with k | k
      · exact Int.mul_nonneg_of_nonpos_of_nonpos (by omega) (by omega)
      · exact Int.mul_nonneg k k
    omega
  · have h3 := sq_le hpos h2
    have h4 : 0 ≤ (r - (q + 1)) * (r - (q + 1)) := by
      rcases Int.lt_or_le (r - (q + 1)) 0 with k | k
      · exact Int.mul_nonneg_of_nonpos_of_nonpos (by omega) (by omega)
      · exact Int.mul_nonneg k k
    generalize q + 1 = b at *
    generalize s + 1 = t at *
    have e1 : (r + b) * (r + b) = r * r + 2 * (b * r) + b * b := by
      simp only [Int.add_mul, Int.mul_add]; rw [Int.mul_comm r b]; omega
    have e2 : (r - b) * (r - b) = r * r - 2 * (b * r) + b * b := by
      simp only [Int.sub_mul, Int.mul_sub]; rw [Int.mul_comm r b]; omega
    have e3 : 2 * t * (2 * t) = 4 * (t * t) := by
      rw [Int.mul_assoc, Int.mul_left_comm t 2 t]; omega
    omega

/-- where it no longer comes down, the root is reached -/
theorem newton_stop {n r : Int} (hr : 0 < r) (h : r ≤ (r + n / r) / 2) : r * r ≤ n := by
  have h1 : r ≤ n / r := by omega
  have h2 : r * r ≤ n / r * r := Int.mul_le_mul_of_nonneg_right h1 (by omega)
  have h3 : n / r * r ≤ n := Int.ediv_mul_le n (by omega)
  omega

theorem newton_pos {n r : Int} (hr : 0 < r) (hn : 1 ≤ n) : 1 ≤ (r + n / r) / 2 := by
  have hq : 0 ≤ n / r := Int.ediv_nonneg (by omega) (by omega)
  rcases Int.lt_or_le r 2 with k | k
  · obtain rfl : r = 1 := by omega
    rw [Int.ediv_one]
    omega
  · omega
theorem newton_quot {n r M : Int} (hr : 0 < r) (hn : 0 ≤ n) (hM : n ≤ M) : 0 ≤ n / r ∧ n / r ≤ M :=
  ⟨Int.ediv_nonneg hn (by omega), Int.le_trans (Int.ediv_le_self _ hn) hM⟩
end Go.Proofs.Ytnmmnikoogjhoaa
