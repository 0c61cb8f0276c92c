/-
  The length of a segment: program and reference compute the same root.
-/
import Derived.Test.YtcglcfjonicjgaaRootI
import Derived.Test.YtcglcfjonicjgaaTurn
namespace Go.Proofs.Ytcglcfjonicjgaa
set_option linter.unusedSimpArgs false
set_option linter.unusedVariables false
open Go.RowKit

def distI (a b : Pt) : Int := (a.x - b.x) * (a.x - b.x) + (a.y - b.y) * (a.y - b.y)
theorem sq_diff {a b : Int} (ha : 0 ≤ a ∧ a ≤ 4095) (hb : 0 ≤ b ∧ b ≤ 4095) : 0 ≤ (a - b) * (a - b) ∧ (a - b) * (a - b) ≤ 16769025 := by
  refine ⟨?_, (diff_prod ha hb ha hb).2⟩
  rcases Int.lt_or_le (a - b) 0 with k | k
  · exact Int.mul_nonneg_of_nonpos_of_nonpos (by omega) (by omega)
  · exact Int.mul_nonneg k k
theorem dist_bd {a b : Pt} (ha : ptB a = true) (hb : ptB b = true) : 0 ≤ distI a b ∧ distI a b ≤ 33538050 := by
  obtain ⟨ha1, ha2, _⟩ := ptB_true ha
  obtain ⟨hb1, hb2, _⟩ := ptB_true hb
  have p1 := sq_diff ha1 hb1
  have p2 := sq_diff ha2 hb2
  unfold distI
  omega
def lenI (a b : Pt) : Int := rootI (256 * distI a b)
theorem len_bd {a b : Pt} (ha : ptB a = true) (hb : ptB b = true) : 0 ≤ lenI a b ∧ lenI a b ≤ 92660 := by
  obtain ⟨h0, h1⟩ := dist_bd ha hb
  exact ⟨Int.natCast_nonneg _, rootI_le (by omega) (by omega) (by omega)⟩

set_option maxHeartbeats 1000000 in
theorem squared_any (a b : Pt) (w : World) (ha : ptB a = true) (hb : ptB b = true) :
    Calls Try.prog 64 #[.agg #[.int .i64 a.x, .int .i64 a.y, .int .i64 a.t], .agg #[.int .i64 b.x, .int .i64 b.y, .int .i64 b.t]] w fun e w' => e = .returned (.int .i64 (distI a b)) ∧ Below w.heap.size w w' := by
  obtain ⟨ha1, ha2, _⟩ := ptB_true ha
  obtain ⟨hb1, hb2, _⟩ := ptB_true hb
  have p1 := sq_diff ha1 hb1
  have p2 := sq_diff ha2 hb2
  clear ha hb
  go_enter Try.func64, Try.ntmps64
  go_wp2_with fail
  go_ret
  exact ⟨rfl, by go_grown⟩
set_option maxHeartbeats 1000000 in
theorem l05Far_any (a b : Pt) (w : World) (ha : ptB a = true) (hb : ptB b = true) :
    Calls Try.prog 63 #[.agg #[.int .i64 a.x, .int .i64 a.y, .int .i64 a.t], .agg #[.int .i64 b.x, .int .i64 b.y, .int .i64 b.t]] w fun e w' => e = .returned (.int .i64 (distI a b)) ∧ Below w.heap.size w w' := by
  obtain ⟨ha1, ha2, _⟩ := ptB_true ha
  obtain ⟨hb1, hb2, _⟩ := ptB_true hb
  have p1 := sq_diff ha1 hb1
  have p2 := sq_diff ha2 hb2
  clear ha hb
  go_enter Try.func63, Try.ntmps63
  go_wp2_with fail
  go_ret
  exact ⟨rfl, by go_grown⟩

theorem lengthOf_any (a b : Pt) (w : World) (ha : ptB a = true) (hb : ptB b = true) :
    Calls Try.prog 76 #[.agg #[.int .i64 a.x, .int .i64 a.y, .int .i64 a.t], .agg #[.int .i64 b.x, .int .i64 b.y, .int .i64 b.t]] w fun e w' => e = .returned (.int .i64 (lenI a b)) ∧ Below w.heap.size w w' := by
  obtain ⟨d0, d1⟩ := dist_bd ha hb
  go_enter Try.func76, Try.ntmps76
  go_wp2_with fail
  refine (squared_any a b _ ha hb).mono ?_
  rintro e w1 ⟨rfl, hB⟩
  go_wp2_with fail
  refine (rootOf_any _ _ (by omega) (by omega)).mono ?_
  rintro e w' ⟨rfl, rfl⟩
  go_wp2_with fail
  go_ret
  exact ⟨rfl, Below.next (by go_grown) hB⟩
theorem l05Length_any (a b : Pt) (w : World) (ha : ptB a = true) (hb : ptB b = true) :
    Calls Try.prog 86 #[.agg #[.int .i64 a.x, .int .i64 a.y, .int .i64 a.t], .agg #[.int .i64 b.x, .int .i64 b.y, .int .i64 b.t]] w fun e w' => e = .returned (.int .i64 (lenI a b)) ∧ Below w.heap.size w w' := by
  obtain ⟨d0, d1⟩ := dist_bd ha hb
  go_enter Try.func86, Try.ntmps86
  go_wp2_with fail
  refine (l05Far_any a b _ ha hb).mono ?_
  rintro e w1 ⟨rfl, hB⟩
  go_wp2_with fail
  refine (l05Root_any _ _ (by omega) (by omega)).mono ?_
  rintro e w' ⟨rfl, rfl⟩
  go_wp2_with fail
  go_ret
  exact ⟨rfl, Below.next (by go_grown) hB⟩
end Go.Proofs.Ytcglcfjonicjgaa
