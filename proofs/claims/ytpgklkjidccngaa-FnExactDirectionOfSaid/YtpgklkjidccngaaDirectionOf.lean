/-
  The law of DirectionOf returns true: program and reference compute the same direction, or refuse alike.
-/
import Derived.Test.YtpgklkjidccngaaDirection
namespace Go.Proofs.Ytpgklkjidccngaa
set_option linter.unusedSimpArgs false
set_option linter.unusedVariables false
open Go.RowKit

set_option maxHeartbeats 4000000 in
theorem l05Sector_any (dx dy : Int) (w : World) (hx : -4095 ≤ dx ∧ dx ≤ 4095) (hy : -4095 ≤ dy ∧ dy ≤ 4095) (hn : dx ≠ 0 ∨ dy ≠ 0) :
    Calls Try.prog 64 #[.int .i64 dx, .int .i64 dy] w fun e w' => e = .returned (.int .i64 (dirI dx dy)) ∧ w = w' := by
  obtain ⟨a, ea⟩ : ∃ a, a = absI dx := ⟨_, rfl⟩
  obtain ⟨b, eb⟩ : ∃ b, b = absI dy := ⟨_, rfl⟩
  have ha := absI_bd hx
  have hb := absI_bd hy
  rw [← ea] at ha
  rw [← eb] at hb
  obtain ⟨⟨k1, k2⟩, ⟨k3, k4⟩, k5, k6⟩ := dir_bd ha hb
  have HE : Hid (dirI dx dy = dirA a b dx dy) := by rw [ea, eb]; rfl
  have HZ : Hid (¬ (a + b) * (a + b) ≤ 2 * b * b → dx ≠ 0) := by rw [ea, eb]; exact dir_nz
  have hc1 := l05Size_any dx w (by omega) (by omega)
  have hc2 := l05Size_any dy w (by omega) (by omega)
  rw [← ea] at hc1
  rw [← eb] at hc2
  have C1 := Lib.hid hc1
  have C2 := Lib.hid hc2
  have EA := Lib.hid ea
  have EB := Lib.hid eb
  clear hc1 hc2 ea eb hn
  cases g1 : decide ((a + b) * (a + b) ≤ 2 * a * a) <;> cases g2 : decide ((a + b) * (a + b) ≤ 2 * b * b) <;> cases g3 : decide (0 < dx) <;> cases g4 : decide (0 < dy) <;> cases g5 : decide (dx < 0)
  all_goals go_enter Try.func64, Try.ntmps64
  all_goals go_wp2_with fail
  all_goals refine C1.out.mono ?_
  all_goals rintro e w' ⟨rfl, rfl⟩
  all_goals go_wp2_with fail
  all_goals refine C2.out.mono ?_
  all_goals rintro e w' ⟨rfl, rfl⟩
  all_goals go_wp2_with fail
  all_goals
    go_ret
    refine ⟨?_, rfl⟩
    rw [HE.out]
    have hz := HZ.out
    simp at g1 g2 g3 g4 g5
    exact ret_int (by simp [dirA]; omega)

def inD (n : Int) : Bool := inB n (-4095) 4095
def dirR (dx dy : Int) : Int × Int := if (inD dx && inD dy) = true then (if dx = 0 ∧ dy = 0 then (0, 6) else (dirI dx dy, 0)) else (0, 2)
theorem inD_is {n : Int} (h : inD n = true) : -4095 ≤ n ∧ n ≤ 4095 := inB_true h

set_option maxHeartbeats 4000000 in
theorem sDirectionOf (dx dy : Int) (w : World) :
    Calls Try.prog 35 #[.int .i64 dx, .int .i64 dy] w fun e w' => e = .returned (.tuple #[.int .i64 (dirR dx dy).1, .int .i64 (dirR dx dy).2]) ∧ w = w' := by
  have hR : Hid (dirR dx dy = if (inD dx && inD dy) = true then (if dx = 0 ∧ dy = 0 then (0, 6) else (dirI dx dy, 0)) else (0, 2)) := rfl
  cases h1 : inB dx (-4095) 4095 <;> cases h2 : inB dy (-4095) 4095
  · go_enter Try.func35, Try.ntmps35
    go_wp2_with (go_at_call 39; refine (l00In_any _ _ _ _).mono ?_; rintro e w' ⟨rfl, rfl⟩)
    go_ret2
    exact ⟨by rw [hR.out, inD, inD, h1, h2]; rfl, rfl⟩
  · go_enter Try.func35, Try.ntmps35
    go_wp2_with (go_at_call 39; refine (l00In_any _ _ _ _).mono ?_; rintro e w' ⟨rfl, rfl⟩)
    go_ret2
    exact ⟨by rw [hR.out, inD, inD, h1, h2]; rfl, rfl⟩
  · go_enter Try.func35, Try.ntmps35
    go_wp2_with (go_at_call 39; refine (l00In_any _ _ _ _).mono ?_; rintro e w' ⟨rfl, rfl⟩)
    go_ret2
    exact ⟨by rw [hR.out, inD, inD, h1, h2]; rfl, rfl⟩
  · have b1 := inB_true h1
    have b2 := inB_true h2
    cases g1 : (dx == 0) <;> cases g2 : (dy == 0)
    · have hn : dx ≠ 0 ∨ dy ≠ 0 := .inl (by simpa using g1)
      have H5 := Lib.hid (l05Sector_any dx dy w b1 b2 hn)
      clear hn
      go_enter Try.func35, Try.ntmps35
      go_wp2_with (first | (go_at_call 39; refine (l00In_any _ _ _ _).mono ?_; rintro e w' ⟨rfl, rfl⟩) | (go_at_call 64; refine (H5.out).mono ?_; rintro e w' ⟨rfl, rfl⟩))
      go_ret2
      exact ⟨by rw [hR.out, inD, inD, h1, h2]; simp at g1 g2; simp [g1], rfl⟩
    · have hn : dx ≠ 0 ∨ dy ≠ 0 := .inl (by simpa using g1)
      have H5 := Lib.hid (l05Sector_any dx dy w b1 b2 hn)
      clear hn
      go_enter Try.func35, Try.ntmps35
      go_wp2_with (first | (go_at_call 39; refine (l00In_any _ _ _ _).mono ?_; rintro e w' ⟨rfl, rfl⟩) | (go_at_call 64; refine (H5.out).mono ?_; rintro e w' ⟨rfl, rfl⟩))
      go_ret2
      exact ⟨by rw [hR.out, inD, inD, h1, h2]; simp at g1 g2; simp [g1], rfl⟩
    · have hn : dx ≠ 0 ∨ dy ≠ 0 := .inr (by simpa using g2)
      have H5 := Lib.hid (l05Sector_any dx dy w b1 b2 hn)
      clear hn
      go_enter Try.func35, Try.ntmps35
      go_wp2_with (first | (go_at_call 39; refine (l00In_any _ _ _ _).mono ?_; rintro e w' ⟨rfl, rfl⟩) | (go_at_call 64; refine (H5.out).mono ?_; rintro e w' ⟨rfl, rfl⟩))
      go_ret2
      exact ⟨by rw [hR.out, inD, inD, h1, h2]; simp at g1 g2; simp [g2], rfl⟩
    · go_enter Try.func35, Try.ntmps35
      go_wp2_with (go_at_call 39; refine (l00In_any _ _ _ _).mono ?_; rintro e w' ⟨rfl, rfl⟩)
      go_ret2
      exact ⟨by rw [hR.out, inD, inD, h1, h2]; simp at g1 g2; simp [g1, g2], rfl⟩

set_option maxHeartbeats 4000000 in
theorem iDirectionOf (dx dy : Int) (w : World) :
    Calls Try.prog 36 #[.int .i64 dx, .int .i64 dy] w fun e w' => e = .returned (.tuple #[.int .i64 (dirR dx dy).1, .int .i64 (dirR dx dy).2]) ∧ w = w' := by
  have hR : Hid (dirR dx dy = if (inD dx && inD dy) = true then (if dx = 0 ∧ dy = 0 then (0, 6) else (dirI dx dy, 0)) else (0, 2)) := rfl
  cases h1 : inB dx (-4095) 4095 <;> cases h2 : inB dy (-4095) 4095
  · go_enter Try.func36, Try.ntmps36
    go_wp2_with (go_at_call 41; refine (within_any _ _ _ _).mono ?_; rintro e w' ⟨rfl, rfl⟩)
    go_ret2
    exact ⟨by rw [hR.out, inD, inD, h1, h2]; rfl, rfl⟩
  · go_enter Try.func36, Try.ntmps36
    go_wp2_with (go_at_call 41; refine (within_any _ _ _ _).mono ?_; rintro e w' ⟨rfl, rfl⟩)
    go_ret2
    exact ⟨by rw [hR.out, inD, inD, h1, h2]; rfl, rfl⟩
  · go_enter Try.func36, Try.ntmps36
    go_wp2_with (go_at_call 41; refine (within_any _ _ _ _).mono ?_; rintro e w' ⟨rfl, rfl⟩)
    go_ret2
    exact ⟨by rw [hR.out, inD, inD, h1, h2]; rfl, rfl⟩
  · have b1 := inB_true h1
    have b2 := inB_true h2
    have H5 := Lib.hid (directionOf_any dx dy w b1 b2)
    cases g1 : (dx == 0) <;> cases g2 : (dy == 0)
    · go_enter Try.func36, Try.ntmps36
      go_wp2_with (first | (go_at_call 41; refine (within_any _ _ _ _).mono ?_; rintro e w' ⟨rfl, rfl⟩) | (go_at_call 65; refine (H5.out).mono ?_; rintro e w' ⟨rfl, rfl⟩))
      go_ret2
      exact ⟨by rw [hR.out, inD, inD, h1, h2]; simp at g1 g2; simp [g1], rfl⟩
    · go_enter Try.func36, Try.ntmps36
      go_wp2_with (first | (go_at_call 41; refine (within_any _ _ _ _).mono ?_; rintro e w' ⟨rfl, rfl⟩) | (go_at_call 65; refine (H5.out).mono ?_; rintro e w' ⟨rfl, rfl⟩))
      go_ret2
      exact ⟨by rw [hR.out, inD, inD, h1, h2]; simp at g1 g2; simp [g1], rfl⟩
    · go_enter Try.func36, Try.ntmps36
      go_wp2_with (first | (go_at_call 41; refine (within_any _ _ _ _).mono ?_; rintro e w' ⟨rfl, rfl⟩) | (go_at_call 65; refine (H5.out).mono ?_; rintro e w' ⟨rfl, rfl⟩))
      go_ret2
      exact ⟨by rw [hR.out, inD, inD, h1, h2]; simp at g1 g2; simp [g2], rfl⟩
    · go_enter Try.func36, Try.ntmps36
      go_wp2_with (go_at_call 41; refine (within_any _ _ _ _).mono ?_; rintro e w' ⟨rfl, rfl⟩)
      go_ret2
      exact ⟨by rw [hR.out, inD, inD, h1, h2]; simp at g1 g2; simp [g1, g2], rfl⟩

theorem law_DirectionOf (dx : Int) (_w1 : (Lit.int .i64 dx).wf = true) (dy : Int) (_w2 : (Lit.int .i64 dy).wf = true) (w : World) :
    Calls Try.prog 11 #[.int .i64 dx, .int .i64 dy] w (Yes w) := by
  clear _w1 _w2
  go_enter Try.func11, Try.ntmps11
  go_wp2_with (first | (go_at_call 35; refine (sDirectionOf _ _ _).mono ?_; rintro e w' ⟨rfl, rfl⟩) | (go_at_call 36; refine (iDirectionOf _ _ _).mono ?_; rintro e w' ⟨rfl, rfl⟩))
  go_ret
  exact ⟨rfl, by go_grown⟩
end Go.Proofs.Ytpgklkjidccngaa
