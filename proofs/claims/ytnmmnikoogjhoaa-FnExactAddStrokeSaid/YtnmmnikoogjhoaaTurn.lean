/-
  On which side of a way a point lies: program and reference compute the same sign.
-/
import Derived.Test.YtnmmnikoogjhoaaPoint
namespace Go.Proofs.Ytnmmnikoogjhoaa
set_option linter.unusedSimpArgs false
set_option linter.unusedVariables false
set_option maxRecDepth 20000
open Go.RowKit

theorem prod_bd {a b M : Int} (ha : -M ≤ a ∧ a ≤ M) (hb : -M ≤ b ∧ b ≤ M) : -(M * M) ≤ a * b ∧ a * b ≤ M * M := by
  have e1 : (M - a) * (M + b) ≥ 0 := Int.mul_nonneg (by omega) (by omega)
  have e2 : (M + a) * (M - b) ≥ 0 := Int.mul_nonneg (by omega) (by omega)
  have e3 : (M + a) * (M + b) ≥ 0 := Int.mul_nonneg (by omega) (by omega)
  have e4 : (M - a) * (M - b) ≥ 0 := Int.mul_nonneg (by omega) (by omega)
  simp only [Int.sub_mul, Int.mul_sub, Int.add_mul, Int.mul_add] at e1 e2 e3 e4
  have c1 : M * b = b * M := Int.mul_comm _ _
  have c2 : a * M = M * a := Int.mul_comm _ _
  constructor <;> omega
theorem diff_prod {a b c d : Int} (ha : 0 ≤ a ∧ a ≤ 4095) (hb : 0 ≤ b ∧ b ≤ 4095) (hc : 0 ≤ c ∧ c ≤ 4095) (hd : 0 ≤ d ∧ d ≤ 4095) : -16769025 ≤ (a - b) * (c - d) ∧ (a - b) * (c - d) ≤ 16769025 :=
  prod_bd (M := 4095) (by omega) (by omega)

def crossI (a b c : Pt) : Int := (b.x - a.x) * (c.y - a.y) - (b.y - a.y) * (c.x - a.x)
def signI (n : Int) : Int := if 0 < n then 1 else if n < 0 then -1 else 0
def turnI (a b c : Pt) : Int := signI (crossI a b c)
theorem turnI_cases (a b c : Pt) : turnI a b c = 1 ∨ turnI a b c = -1 ∨ turnI a b c = 0 := by
  unfold turnI signI
  split
  · exact .inl rfl
  · split
    · exact .inr (.inl rfl)
    · exact .inr (.inr rfl)

end Go.Proofs.Ytnmmnikoogjhoaa
