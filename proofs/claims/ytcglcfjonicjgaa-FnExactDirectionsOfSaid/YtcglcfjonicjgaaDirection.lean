/-
  The direction of a difference: program and reference compute the same one of eight.
-/
import Derived.Test.YtcglcfjonicjgaaTurn
namespace Go.Proofs.Ytcglcfjonicjgaa
set_option linter.unusedSimpArgs false
set_option linter.unusedVariables false
open Go.RowKit

def absI (n : Int) : Int := if n < 0 then -n else n
theorem absI_bd {n M : Int} (h : -M ≤ n ∧ n ≤ M) : 0 ≤ absI n ∧ absI n ≤ M := by unfold absI; split <;> omega
theorem absI_zero {n : Int} (h : absI n = 0) : n = 0 := by unfold absI at h; split at h <;> omega

theorem abs_any (n : Int) (w : World) (h : -4611686018427387904 ≤ n) (h2 : n ≤ 4611686018427387904) :
    Calls Try.prog 101 #[.int .i64 n] w fun e w' => e = .returned (.int .i64 (absI n)) ∧ w = w' := by
  cases hn : decide (n < 0)
  all_goals go_enter Try.func101, Try.ntmps101
  all_goals go_wp2
  all_goals
    go_ret
    simp at hn
    exact ⟨ret_int (by unfold absI; split <;> omega), rfl⟩
theorem l05Size_any (n : Int) (w : World) (h : -4611686018427387904 ≤ n) (h2 : n ≤ 4611686018427387904) :
    Calls Try.prog 100 #[.int .i64 n] w fun e w' => e = .returned (.int .i64 (absI n)) ∧ w = w' := by
  cases hn : decide (n < 0)
  all_goals go_enter Try.func100, Try.ntmps100
  all_goals go_wp2
  all_goals
    go_ret
    simp at hn
    exact ⟨ret_int (by unfold absI; split <;> omega), rfl⟩

/-- the direction, by the absolute values a, b of the difference (dx, dy) -/
def dirA (a b dx dy : Int) : Int :=
  if (a + b) * (a + b) ≤ 2 * a * a then (if 0 < dx then 0 else 4) else if (a + b) * (a + b) ≤ 2 * b * b then (if 0 < dy then 2 else 6)
  else if 0 < dx ∧ 0 < dy then 1 else if 0 < dy then 3 else if dx < 0 then 5 else 7
def dirI (dx dy : Int) : Int := dirA (absI dx) (absI dy) dx dy
theorem dir_bd {a b : Int} (ha : 0 ≤ a ∧ a ≤ 4095) (hb : 0 ≤ b ∧ b ≤ 4095) : (0 ≤ (a + b) * (a + b) ∧ (a + b) * (a + b) ≤ 67076100) ∧ (0 ≤ 2 * a * a ∧ 2 * a * a ≤ 67076100) ∧ 0 ≤ 2 * b * b ∧ 2 * b * b ≤ 67076100 := by
  refine ⟨⟨Int.mul_nonneg (by omega) (by omega), ?_⟩, ⟨Int.mul_nonneg (by omega) (by omega), ?_⟩, Int.mul_nonneg (by omega) (by omega), ?_⟩
  · exact (prod_bd (M := 8190) (by omega) (by omega)).2
  · exact (prod_bd (M := 8190) (by omega) (by omega)).2
  · exact (prod_bd (M := 8190) (by omega) (by omega)).2
/-- where neither axis wins the difference has no zero -/
theorem dir_nz {dx dy : Int} (h : ¬ (absI dx + absI dy) * (absI dx + absI dy) ≤ 2 * absI dy * absI dy) : dx ≠ 0 := by
  rintro rfl
  apply h
  have : 0 ≤ absI dy * absI dy := by
    have : 0 ≤ absI dy := by unfold absI; split <;> omega
    exact Int.mul_nonneg this this
  have e : absI 0 = 0 := rfl
  rw [e, Int.zero_add, Int.mul_assoc]
  omega

set_option maxHeartbeats 4000000 in
theorem directionOf_any (dx dy : Int) (w : World) (hx : -4095 ≤ dx ∧ dx ≤ 4095) (hy : -4095 ≤ dy ∧ dy ≤ 4095) :
    Calls Try.prog 94 #[.int .i64 dx, .int .i64 dy] w fun e w' => e = .returned (.int .i64 (dirI dx dy)) ∧ w = w' := by
  obtain ⟨a, ea⟩ : ∃ a, a = absI dx := ⟨_, rfl⟩
  obtain ⟨b, eb⟩ : ∃ b, b = absI dy := ⟨_, rfl⟩
  have ha := absI_bd hx
  have hb := absI_bd hy
  rw [← ea] at ha
  rw [← eb] at hb
  obtain ⟨⟨k1, k2⟩, ⟨k3, k4⟩, k5, k6⟩ := dir_bd ha hb
  have HE : Hid (dirI dx dy = dirA a b dx dy) := by rw [ea, eb]; rfl
  have hc1 := abs_any dx w (by omega) (by omega)
  have hc2 := abs_any dy w (by omega) (by omega)
  rw [← ea] at hc1
  rw [← eb] at hc2
  have C1 := Lib.hid hc1
  have C2 := Lib.hid hc2
  have EA := Lib.hid ea
  have EB := Lib.hid eb
  clear hc1 hc2 ea eb
  cases g1 : decide ((a + b) * (a + b) ≤ 2 * a * a) <;> cases g2 : decide ((a + b) * (a + b) ≤ 2 * b * b) <;> cases g3 : decide (0 < dx) <;> cases g4 : decide (0 < dy) <;> cases g5 : decide (dx < 0)
  all_goals go_enter Try.func94, Try.ntmps94
  all_goals go_wp2_with fail
  all_goals refine C1.out.mono ?_
  all_goals rintro e w' ⟨rfl, rfl⟩
  all_goals go_wp2_with fail
  all_goals refine C2.out.mono ?_
  all_goals rintro e w' ⟨rfl, rfl⟩
  all_goals go_wp2_with fail
  all_goals
    go_ret
    refine ⟨?_, rfl⟩
    rw [HE.out]
    simp at g1 g2 g3 g4 g5
    exact ret_int (by simp [dirA]; omega)
end Go.Proofs.Ytcglcfjonicjgaa
