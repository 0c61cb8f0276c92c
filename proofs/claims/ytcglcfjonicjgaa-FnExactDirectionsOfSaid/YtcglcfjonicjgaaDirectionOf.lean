/-
  The law of DirectionOf returns true: program and reference compute the same direction, or refuse alike.
-/
import Derived.Test.YtcglcfjonicjgaaDirection
namespace Go.Proofs.Ytcglcfjonicjgaa
set_option linter.unusedSimpArgs false
set_option linter.unusedVariables false
open Go.RowKit

set_option maxHeartbeats 4000000 in
theorem l05Sector_any (dx dy : Int) (w : World) (hx : -4095 ≤ dx ∧ dx ≤ 4095) (hy : -4095 ≤ dy ∧ dy ≤ 4095) (hn : dx ≠ 0 ∨ dy ≠ 0) :
    Calls Try.prog 93 #[.int .i64 dx, .int .i64 dy] w fun e w' => e = .returned (.int .i64 (dirI dx dy)) ∧ w = w' := by
  obtain ⟨a, ea⟩ : ∃ a, a = absI dx := ⟨_, rfl⟩
  obtain ⟨b, eb⟩ : ∃ b, b = absI dy := ⟨_, rfl⟩
  have ha := absI_bd hx
  have hb := absI_bd hy
  rw [← ea] at ha
  rw [← eb] at hb
  obtain ⟨⟨k1, k2⟩, ⟨k3, k4⟩, k5, k6⟩ := dir_bd ha hb
  have HE : Hid (dirI dx dy = dirA a b dx dy) := by rw [ea, eb]; rfl
  have HZ : Hid (¬ (a + b) * (a + b) ≤ 2 * b * b → dx ≠ 0) := by rw [ea, eb]; exact dir_nz
  have hc1 := l05Size_any dx w (by omega) (by omega)
  have hc2 := l05Size_any dy w (by omega) (by omega)
  rw [← ea] at hc1
  rw [← eb] at hc2
  have C1 := Lib.hid hc1
  have C2 := Lib.hid hc2
  have EA := Lib.hid ea
  have EB := Lib.hid eb
  clear hc1 hc2 ea eb hn
  cases g1 : decide ((a + b) * (a + b) ≤ 2 * a * a) <;> cases g2 : decide ((a + b) * (a + b) ≤ 2 * b * b) <;> cases g3 : decide (0 < dx) <;> cases g4 : decide (0 < dy) <;> cases g5 : decide (dx < 0)
  all_goals go_enter Try.func93, Try.ntmps93
  all_goals go_wp2_with fail
  all_goals refine C1.out.mono ?_
  all_goals rintro e w' ⟨rfl, rfl⟩
  all_goals go_wp2_with fail
  all_goals refine C2.out.mono ?_
  all_goals rintro e w' ⟨rfl, rfl⟩
  all_goals go_wp2_with fail
  all_goals
    go_ret
    refine ⟨?_, rfl⟩
    rw [HE.out]
    have hz := HZ.out
    simp at g1 g2 g3 g4 g5
    exact ret_int (by simp [dirA]; omega)

def inD (n : Int) : Bool := inB n (-4095) 4095
def dirR (dx dy : Int) : Int × Int := if (inD dx && inD dy) = true then (if dx = 0 ∧ dy = 0 then (0, 6) else (dirI dx dy, 0)) else (0, 2)
theorem inD_is {n : Int} (h : inD n = true) : -4095 ≤ n ∧ n ≤ 4095 := inB_true h

end Go.Proofs.Ytcglcfjonicjgaa
