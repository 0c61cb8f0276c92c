/-
  Boxes: program and reference ask the same of a box and join two boxes alike.
-/
import Derived.Test.YtnmmnikoogjhoaaSmall
namespace Go.Proofs.Ytnmmnikoogjhoaa
set_option linter.unusedSimpArgs false
set_option linter.unusedVariables false
set_option maxRecDepth 20000
open Go.RowKit

structure Bx where
  x1 : Int
  y1 : Int
  x2 : Int
  y2 : Int

def bxB (b : Bx) : Bool := inB b.x1 0 b.x2 && inB b.y1 0 b.y2 && decide (b.x2 ≤ 4095) && decide (b.y2 ≤ 4095)
def minI (a b : Int) : Int := if a < b then a else b
def maxI (a b : Int) : Int := if b < a then a else b
def joinB (a b : Bx) : Bx := ⟨minI a.x1 b.x1, minI a.y1 b.y1, maxI a.x2 b.x2, maxI a.y2 b.y2⟩

theorem l00Min_any (a b : Int) (w : World) :
    Calls Try.prog 98 #[.int .i64 a, .int .i64 b] w fun e w' => e = .returned (.int .i64 (minI a b)) ∧ w = w' := by
  cases h : decide (a < b)
  all_goals go_enter Try.func98, Try.ntmps98
  all_goals go_wp2
  all_goals
    go_ret
    simp at h
    exact ⟨ret_int (by first | (unfold minI; split <;> omega) | (unfold maxI; split <;> omega)), rfl⟩
theorem l00Max_any (a b : Int) (w : World) :
    Calls Try.prog 99 #[.int .i64 a, .int .i64 b] w fun e w' => e = .returned (.int .i64 (maxI a b)) ∧ w = w' := by
  cases h : decide (b < a)
  all_goals go_enter Try.func99, Try.ntmps99
  all_goals go_wp2
  all_goals
    go_ret
    simp at h
    exact ⟨ret_int (by first | (unfold minI; split <;> omega) | (unfold maxI; split <;> omega)), rfl⟩

theorem ret_agg4 {a b c d a' b' c' d' : Int} (h1 : a = a') (h2 : b = b') (h3 : c = c') (h4 : d = d') :
    Ending.returned (.agg #[.int .i64 a, .int .i64 b, .int .i64 c, .int .i64 d]) = .returned (.agg #[.int .i64 a', .int .i64 b', .int .i64 c', .int .i64 d']) := by rw [h1, h2, h3, h4]
end Go.Proofs.Ytnmmnikoogjhoaa
