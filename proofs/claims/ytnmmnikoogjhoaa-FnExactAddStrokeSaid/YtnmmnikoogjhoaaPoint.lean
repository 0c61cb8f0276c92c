/-
  Points: program and reference ask the same of a point; a point of the law becomes a point of the program.
-/
import Derived.Test.YtnmmnikoogjhoaaSmall
namespace Go.Proofs.Ytnmmnikoogjhoaa
set_option linter.unusedSimpArgs false
set_option linter.unusedVariables false
set_option maxRecDepth 20000
open Go.RowKit

structure Pt where
  x : Int
  y : Int
  t : Int
  deriving DecidableEq

def ptB (p : Pt) : Bool := inB p.x 0 4095 && inB p.y 0 4095 && inB p.t 0 3600000
theorem ptB_true {p : Pt} (h : ptB p = true) : (0 ≤ p.x ∧ p.x ≤ 4095) ∧ (0 ≤ p.y ∧ p.y ≤ 4095) ∧ 0 ≤ p.t ∧ p.t ≤ 3600000 := by
  simp only [ptB, Bool.and_eq_true] at h
  exact ⟨inB_true h.1.1, inB_true h.1.2, inB_true h.2⟩

theorem isCoord_any (n : Int) (w : World) :
    Calls Try.prog 97 #[.int .i64 n] w fun e w' => e = .returned (.bool (inB n 0 4095)) ∧ w = w' := by
  go_enter Try.func97, Try.ntmps97
  go_wp2_with (go_at_call 56; refine (within_any _ _ _ _).mono ?_; rintro e w' ⟨rfl, rfl⟩)
  go_ret
  exact ⟨rfl, rfl⟩

set_option maxHeartbeats 1000000 in
theorem iValidPoint (p : Pt) (w : World) :
    Calls Try.prog 80 #[.agg #[.int .i64 p.x, .int .i64 p.y, .int .i64 p.t]] w fun e w' => e = .returned (.bool (ptB p)) ∧ Below w.heap.size w w' := by
  cases h1 : inB p.x 0 4095 <;> cases h2 : inB p.y 0 4095 <;> cases h3 : inB p.t 0 3600000
  all_goals
    go_enter Try.func80, Try.ntmps80
    go_wp2_with (first | (go_at_call 56; refine (within_any _ _ _ _).mono ?_; rintro e w' ⟨rfl, rfl⟩) | (go_at_call 97; refine (isCoord_any _ _).mono ?_; rintro e w' ⟨rfl, rfl⟩))
    go_ret
    exact ⟨ret_bool (by simp [ptB, h1, h2, h3]), by go_grown⟩

set_option maxHeartbeats 1000000 in
theorem l02Point_any (p : Pt) (w : World) :
    Calls Try.prog 88 #[.agg #[.int .i64 p.x, .int .i64 p.y, .int .i64 p.t]] w fun e w' => e = .returned (.bool (ptB p)) ∧ Below w.heap.size w w' := by
  cases h1 : inB p.x 0 4095 <;> cases h2 : inB p.y 0 4095 <;> cases h3 : inB p.t 0 3600000
  all_goals
    go_enter Try.func88, Try.ntmps88
    go_wp2_with (go_at_call 54; refine (l00In_any _ _ _ _).mono ?_; rintro e w' ⟨rfl, rfl⟩)
    go_ret
    exact ⟨ret_bool (by simp [ptB, h1, h2, h3]), by go_grown⟩

theorem toPoint_any (p : Pt) (w : World) :
    Calls Try.prog 89 #[.agg #[.int .i64 p.x, .int .i64 p.y, .int .i64 p.t]] w fun e w' => e = .returned (.agg #[.int .i64 p.x, .int .i64 p.y, .int .i64 p.t]) ∧ Below w.heap.size w w' := by
  go_enter Try.func89, Try.ntmps89
  go_wp2
  go_returns
  exact ⟨rfl, by go_grown⟩

/-- its numbers fit int64 -/
def Pt.wf (p : Pt) : Prop := (Lit.int .i64 p.x).wf = true ∧ (Lit.int .i64 p.y).wf = true ∧ (Lit.int .i64 p.t).wf = true

theorem open_point {H : Type} {enc : TypeId × Value → H} {W : World} {base : Nat} {v : Value} {d : DataW H} {p : List MemPlace}
    (hv : Value.okWide Try.prog W .any base 114 v) (h : DataW.Trod enc Try.prog W 0 (fun _ => true) true 114 v d p) :
    ∃ q : Pt, v = .agg #[.int .i64 q.x, .int .i64 q.y, .int .i64 q.t] ∧ q.wf := by
  obtain ⟨v0, v1, v2, y0, y1, y2, n, rfl, rfl, rfl, g0, g1, g2⟩ := Joins.open_agg3 Try.underlying114 (by kernel_rfl) (by kernel_rfl) hv h
  obtain ⟨a, ha, _, wa⟩ := DataW.trod_int Try.underlying2 g0
  obtain ⟨b, hb, _, wb⟩ := DataW.trod_int Try.underlying2 g1
  obtain ⟨c, hc, _, wc⟩ := DataW.trod_int Try.underlying2 g2
  simp at ha hb hc
  subst ha hb hc
  exact ⟨⟨a, b, c⟩, rfl, wa, wb, wc⟩
end Go.Proofs.Ytnmmnikoogjhoaa
