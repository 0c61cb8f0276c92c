/-
  Whether two segments meet: program and reference answer alike.
-/
import Derived.Test.YtcglcfjonicjgaaTurn
import Derived.Test.YtcglcfjonicjgaaBoxes
namespace Go.Proofs.Ytcglcfjonicjgaa
set_option linter.unusedSimpArgs false
set_option linter.unusedVariables false
open Go.RowKit

def betwB (a b p : Pt) : Bool := inB p.x (minI a.x b.x) (maxI a.x b.x) && inB p.y (minI a.y b.y) (maxI a.y b.y)
theorem minI_is (a b : Int) : minI a b ≤ a ∧ minI a b ≤ b ∧ (minI a b = a ∨ minI a b = b) := by unfold minI; split <;> omega
theorem maxI_is (a b : Int) : a ≤ maxI a b ∧ b ≤ maxI a b ∧ (maxI a b = a ∨ maxI a b = b) := by unfold maxI; split <;> omega
theorem betwB_yes {a b p : Pt} (h1 : minI a.x b.x ≤ p.x) (h2 : p.x ≤ maxI a.x b.x) (h3 : minI a.y b.y ≤ p.y) (h4 : p.y ≤ maxI a.y b.y) : betwB a b p = true := by
  unfold betwB; rw [inB_mk ⟨h1, h2⟩, inB_mk ⟨h3, h4⟩]; rfl
theorem betwB_no1 {a b p : Pt} (h : ¬ (minI a.x b.x ≤ p.x ∧ p.x ≤ maxI a.x b.x)) : betwB a b p = false := by
  unfold betwB; rw [inB_not h]; rfl
theorem betwB_no2 {a b p : Pt} (h : ¬ (minI a.y b.y ≤ p.y ∧ p.y ≤ maxI a.y b.y)) : betwB a b p = false := by
  unfold betwB; rw [inB_not h, Bool.and_false]

theorem within_or (n low high : Int) (w : World) :
    Calls Try.prog 82 #[.int .i64 n, .int .i64 low, .int .i64 high] w fun e w' => ((low ≤ n ∧ n ≤ high) ∧ e = .returned (.bool true) ∧ w = w') ∨ ((n < low ∨ high < n) ∧ e = .returned (.bool false) ∧ w = w') :=
  (within_any n low high w).mono fun e w' ⟨he, hw⟩ => by
    cases h : inB n low high
    · rw [h] at he
      exact .inr ⟨by have := inB_false h; omega, he, hw⟩
    · rw [h] at he
      exact .inl ⟨inB_true h, he, hw⟩

set_option maxHeartbeats 4000000 in
theorem between_any (a b p : Pt) (w : World) :
    Calls Try.prog 90 #[.agg #[.int .i64 a.x, .int .i64 a.y, .int .i64 a.t], .agg #[.int .i64 b.x, .int .i64 b.y, .int .i64 b.t], .agg #[.int .i64 p.x, .int .i64 p.y, .int .i64 p.t]] w fun e w' => e = .returned (.bool (betwB a b p)) ∧ Below w.heap.size w w' := by
  go_enter Try.func90, Try.ntmps90
  go_wp2_with (go_at_call 82; refine (within_or _ _ _ _).mono ?_; rintro e w' (⟨hin, rfl, rfl⟩ | ⟨hin, rfl, rfl⟩))
  all_goals
    go_ret
    have m1 := minI_is a.x b.x
    have m2 := maxI_is a.x b.x
    have m3 := minI_is a.y b.y
    have m4 := maxI_is a.y b.y
    refine ⟨ret_bool ?_, by go_grown⟩
    first
      | exact (betwB_yes (by omega) (by omega) (by omega) (by omega)).symm
      | exact (betwB_no1 (by omega)).symm
      | exact (betwB_no2 (by omega)).symm

theorem between_or (a b p : Pt) (w : World) :
    Calls Try.prog 90 #[.agg #[.int .i64 a.x, .int .i64 a.y, .int .i64 a.t], .agg #[.int .i64 b.x, .int .i64 b.y, .int .i64 b.t], .agg #[.int .i64 p.x, .int .i64 p.y, .int .i64 p.t]] w fun e w' => (betwB a b p = true ∧ e = .returned (.bool true) ∧ Below w.heap.size w w') ∨ (betwB a b p = false ∧ e = .returned (.bool false) ∧ Below w.heap.size w w') :=
  (between_any a b p w).mono fun e w' ⟨he, hw⟩ => by
    cases h : betwB a b p
    · rw [h] at he
      exact .inr ⟨rfl, he, hw⟩
    · rw [h] at he
      exact .inl ⟨rfl, he, hw⟩
theorem l00In_of {n low high : Int} {b : Bool} (h : inB n low high = b) (w : World) :
    Calls Try.prog 80 #[.int .i64 n, .int .i64 low, .int .i64 high] w fun e w' => e = .returned (.bool b) ∧ w = w' := by
  rw [← h]; exact l00In_any n low high w

def meetB (a b c d : Pt) : Bool := (decide (turnI a b c * turnI a b d < 0) && decide (turnI c d a * turnI c d b < 0)) ||
  (turnI a b c == 0 && betwB a b c || turnI a b d == 0 && betwB a b d || turnI c d a == 0 && betwB c d a || turnI c d b == 0 && betwB c d b)
theorem meetB_is (a b c d : Pt) : meetB a b c d = decide ((turnI a b c * turnI a b d < 0 ∧ turnI c d a * turnI c d b < 0) ∨ (turnI a b c = 0 ∧ betwB a b c = true) ∨ (turnI a b d = 0 ∧ betwB a b d = true) ∨ (turnI c d a = 0 ∧ betwB c d a = true) ∨ (turnI c d b = 0 ∧ betwB c d b = true)) := by
  rw [Bool.eq_iff_iff]
  simp [meetB, or_assoc]
theorem meetB_yes {a b c d : Pt} (h : (turnI a b c * turnI a b d < 0 ∧ turnI c d a * turnI c d b < 0) ∨ (turnI a b c = 0 ∧ betwB a b c = true) ∨ (turnI a b d = 0 ∧ betwB a b d = true) ∨ (turnI c d a = 0 ∧ betwB c d a = true) ∨ (turnI c d b = 0 ∧ betwB c d b = true)) : true = meetB a b c d := by
  rw [meetB_is, decide_eq_true h]
theorem meetB_no {a b c d : Pt} (h : ¬ ((turnI a b c * turnI a b d < 0 ∧ turnI c d a * turnI c d b < 0) ∨ (turnI a b c = 0 ∧ betwB a b c = true) ∨ (turnI a b d = 0 ∧ betwB a b d = true) ∨ (turnI c d a = 0 ∧ betwB c d a = true) ∨ (turnI c d b = 0 ∧ betwB c d b = true))) : false = meetB a b c d := by
  rw [meetB_is, decide_eq_false h]
theorem no_both {b : Bool} (h : b = true) (h' : b = false) : False := by rw [h] at h'; cases h'
theorem turn_prod (a b c a' b' c' : Pt) : -1 ≤ turnI a b c * turnI a' b' c' ∧ turnI a b c * turnI a' b' c' ≤ 1 := by
  rcases turnI_cases a b c with h | h | h <;> rcases turnI_cases a' b' c' with h' | h' | h' <;> rw [h, h'] <;> decide
end Go.Proofs.Ytcglcfjonicjgaa
