/-
  The length of a segment: program and reference compute the same root.
-/
import Derived.Test.YtnmmnikoogjhoaaRootI
import Derived.Test.YtnmmnikoogjhoaaTurn
namespace Go.Proofs.Ytnmmnikoogjhoaa
set_option linter.unusedSimpArgs false
set_option linter.unusedVariables false
set_option maxRecDepth 20000
open Go.RowKit

def distI (a b : Pt) : Int := (a.x - b.x) * (a.x - b.x) + (a.y - b.y) * (a.y - b.y)
theorem sq_diff {a b : Int} (ha : 0 ≤ a ∧ a ≤ 4095) (hb : 0 ≤ b ∧ b ≤ 4095) : 0 ≤ (a - b) * (a - b) ∧ (a - b) * (a - b) ≤ 16769025 := by
  refine ⟨?_, (diff_prod ha hb ha hb).2⟩
  rcases Int.lt_or_le (a - b) 0 with k | k
  · exact Int.mul_nonneg_of_nonpos_of_nonpos (by omega) (by omega)
  · exact Int.mul_nonneg k k
theorem dist_bd {a b : Pt} (ha : ptB a = true) (hb : ptB b = true) : 0 ≤ distI a b ∧ distI a b ≤ 33538050 := by
  obtain ⟨ha1, ha2, _⟩ := ptB_true ha
  obtain ⟨hb1, hb2, _⟩ := ptB_true hb
  have p1 := sq_diff ha1 hb1
  have p2 := sq_diff ha2 hb2
  unfold distI
  omega
def lenI (a b : Pt) : Int := rootI (256 * distI a b)
theorem len_bd {a b : Pt} (ha : ptB a = true) (hb : ptB b = true) : 0 ≤ lenI a b ∧ lenI a b ≤ 92660 := by
  obtain ⟨h0, h1⟩ := dist_bd ha hb
  exact ⟨Int.natCast_nonneg _, rootI_le (by omega) (by omega) (by omega)⟩

end Go.Proofs.Ytnmmnikoogjhoaa
