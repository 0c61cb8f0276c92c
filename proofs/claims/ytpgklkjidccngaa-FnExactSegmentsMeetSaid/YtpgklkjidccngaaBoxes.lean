/-
  Boxes: program and reference ask the same of a box and join two boxes alike.
-/
import Derived.Test.YtpgklkjidccngaaSmall
namespace Go.Proofs.Ytpgklkjidccngaa
set_option linter.unusedSimpArgs false
set_option linter.unusedVariables false
open Go.RowKit

structure Bx where
  x1 : Int
  y1 : Int
  x2 : Int
  y2 : Int

def bxB (b : Bx) : Bool := inB b.x1 0 b.x2 && inB b.y1 0 b.y2 && decide (b.x2 ≤ 4095) && decide (b.y2 ≤ 4095)
def minI (a b : Int) : Int := if a < b then a else b
def maxI (a b : Int) : Int := if b < a then a else b
def joinB (a b : Bx) : Bx := ⟨minI a.x1 b.x1, minI a.y1 b.y1, maxI a.x2 b.x2, maxI a.y2 b.y2⟩

set_option maxHeartbeats 1000000 in
theorem iValidBx (b : Bx) (w : World) :
    Calls Try.prog 54 #[.agg #[.int .i64 b.x1, .int .i64 b.y1, .int .i64 b.x2, .int .i64 b.y2]] w fun e w' => e = .returned (.bool (bxB b)) ∧ Below w.heap.size w w' := by
  cases h1 : inB b.x1 0 b.x2 <;> cases h2 : inB b.y1 0 b.y2 <;> cases h3 : decide (b.x2 ≤ 4095) <;> cases h4 : decide (b.y2 ≤ 4095)
  all_goals
    go_enter Try.func54, Try.ntmps54
    go_wp2_with (go_at_call 41; refine (within_any _ _ _ _).mono ?_; rintro e w' ⟨rfl, rfl⟩)
    go_ret
    exact ⟨ret_bool (by rw [bxB, h1, h2, h3, h4]; rfl), by go_grown⟩

set_option maxHeartbeats 1000000 in
theorem l02Bx_any (b : Bx) (w : World) :
    Calls Try.prog 52 #[.agg #[.int .i64 b.x1, .int .i64 b.y1, .int .i64 b.x2, .int .i64 b.y2]] w fun e w' => e = .returned (.bool (bxB b)) ∧ Below w.heap.size w w' := by
  cases h1 : inB b.x1 0 b.x2 <;> cases h2 : inB b.y1 0 b.y2 <;> cases h3 : decide (b.x2 ≤ 4095) <;> cases h4 : decide (b.y2 ≤ 4095)
  all_goals
    go_enter Try.func52, Try.ntmps52
    go_wp2_with (go_at_call 39; refine (l00In_any _ _ _ _).mono ?_; rintro e w' ⟨rfl, rfl⟩)
    go_ret
    exact ⟨ret_bool (by rw [bxB, h1, h2, h3, h4]; rfl), by go_grown⟩

theorem l00Min_any (a b : Int) (w : World) :
    Calls Try.prog 73 #[.int .i64 a, .int .i64 b] w fun e w' => e = .returned (.int .i64 (minI a b)) ∧ w = w' := by
  cases h : decide (a < b)
  all_goals go_enter Try.func73, Try.ntmps73
  all_goals go_wp2
  all_goals
    go_ret
    simp at h
    exact ⟨ret_int (by first | (unfold minI; split <;> omega) | (unfold maxI; split <;> omega)), rfl⟩
theorem l00Max_any (a b : Int) (w : World) :
    Calls Try.prog 74 #[.int .i64 a, .int .i64 b] w fun e w' => e = .returned (.int .i64 (maxI a b)) ∧ w = w' := by
  cases h : decide (b < a)
  all_goals go_enter Try.func74, Try.ntmps74
  all_goals go_wp2
  all_goals
    go_ret
    simp at h
    exact ⟨ret_int (by first | (unfold minI; split <;> omega) | (unfold maxI; split <;> omega)), rfl⟩

theorem ret_agg4 {a b c d a' b' c' d' : Int} (h1 : a = a') (h2 : b = b') (h3 : c = c') (h4 : d = d') :
    Ending.returned (.agg #[.int .i64 a, .int .i64 b, .int .i64 c, .int .i64 d]) = .returned (.agg #[.int .i64 a', .int .i64 b', .int .i64 c', .int .i64 d']) := by rw [h1, h2, h3, h4]
theorem toBx_any (b : Bx) (w : World) :
    Calls Try.prog 23 #[.agg #[.int .i64 b.x1, .int .i64 b.y1, .int .i64 b.x2, .int .i64 b.y2]] w fun e w' => e = .returned (.agg #[.int .i64 b.x1, .int .i64 b.y1, .int .i64 b.x2, .int .i64 b.y2]) ∧ Below w.heap.size w w' := by
  go_enter Try.func23, Try.ntmps23
  go_wp2
  go_returns
  exact ⟨rfl, by go_grown⟩

theorem open_bx {H : Type} {enc : TypeId × Value → H} {W : World} {base : Nat} {v : Value} {d : DataW H} {p : List MemPlace}
    (hv : Value.okWide Try.prog W .any base 37 v) (h : DataW.Trod enc Try.prog W 0 (fun _ => true) true 37 v d p) :
    ∃ b : Bx, v = .agg #[.int .i64 b.x1, .int .i64 b.y1, .int .i64 b.x2, .int .i64 b.y2] ∧ True := by
  obtain ⟨v0, v1, v2, v3, y0, y1, y2, y3, n, rfl, rfl, rfl, g0, g1, g2, g3⟩ := Joins.open_agg4 Try.underlying37 (by kernel_rfl) (by kernel_rfl) hv h
  obtain ⟨a, ha, _, _⟩ := DataW.trod_int Try.underlying2 g0
  obtain ⟨b, hb, _, _⟩ := DataW.trod_int Try.underlying2 g1
  obtain ⟨c, hc, _, _⟩ := DataW.trod_int Try.underlying2 g2
  obtain ⟨e, he, _, _⟩ := DataW.trod_int Try.underlying2 g3
  simp at ha hb hc he
  subst ha hb hc he
  exact ⟨⟨a, b, c, e⟩, rfl, trivial⟩
end Go.Proofs.Ytpgklkjidccngaa
