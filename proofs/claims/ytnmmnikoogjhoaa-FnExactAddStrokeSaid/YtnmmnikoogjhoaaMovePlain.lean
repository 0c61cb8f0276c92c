/-
  What moving an ink gives, in plain words.
-/
import Derived.Test.YtnmmnikoogjhoaaMapMove
import Derived.Test.YtnmmnikoogjhoaaInkLaw
namespace Go.Proofs.Ytnmmnikoogjhoaa
set_option linter.unusedSimpArgs false
set_option linter.unusedVariables false
set_option maxRecDepth 20000
open Go.RowKit
open Go.ChangeShapes Go.WideShapes Go.Deep Go.Joins

/-- the ink moved by (dx, dy), or a refusal -/
def moveR (P : List (List Pt)) (dx dy : Int) : List (List Pt) × Int :=
  if inkB P = true then (if P.length = 0 then ([], 0) else if inB dx (-4095) 4095 = true ∧ inB dy (-4095) 4095 = true then (if inkB (mapP (mvP dx dy) P) = true then (mapP (mvP dx dy) P, 0) else ([], 2)) else ([], 2)) else ([], 1)
theorem moveR_no {P : List (List Pt)} {dx dy : Int} (h : inkB P = false) : moveR P dx dy = ([], 1) := by simp [moveR, h]
theorem moveR_nil {P : List (List Pt)} {dx dy : Int} (h : inkB P = true) (h0 : P.length = 0) : moveR P dx dy = ([], 0) := by simp [moveR, h, h0]
theorem moveR_far {P : List (List Pt)} {dx dy : Int} (h : inkB P = true) (h0 : ¬ P.length = 0) (h1 : inB dx (-4095) 4095 = false ∨ inB dy (-4095) 4095 = false) : moveR P dx dy = ([], 2) := by
  rcases h1 with h1 | h1 <;> simp [moveR, h, h0, h1]
theorem moveR_bad {P : List (List Pt)} {dx dy : Int} (h : inkB P = true) (h0 : ¬ P.length = 0) (h1 : inB dx (-4095) 4095 = true) (h2 : inB dy (-4095) 4095 = true) (h3 : inkB (mapP (mvP dx dy) P) = false) : moveR P dx dy = ([], 2) := by
  simp [moveR, h, h0, h1, h2, h3]
theorem moveR_ok {P : List (List Pt)} {dx dy : Int} (h : inkB P = true) (h0 : ¬ P.length = 0) (h1 : inB dx (-4095) 4095 = true) (h2 : inB dy (-4095) 4095 = true) (h3 : inkB (mapP (mvP dx dy) P) = true) : moveR P dx dy = (mapP (mvP dx dy) P, 0) := by
  simp [moveR, h, h0, h1, h2, h3]
theorem mapP_small {F : Pt → Pt} {P : List (List Pt)} (h : smallP P) : smallP (mapP F P) := by
  refine ⟨by rw [mapP_len]; exact h.1, fun l hl => ?_⟩
  obtain ⟨l0, h0, rfl⟩ := List.mem_map.1 hl
  rw [List.length_map]
  exact h.2 _ h0
theorem moveR_small (P : List (List Pt)) (dx dy : Int) : smallP (moveR P dx dy).1 := by
  cases h : inkB P
  · rw [moveR_no h]; exact smallP_nil
  · unfold moveR
    repeat' split
    all_goals first | exact smallP_nil | exact mapP_small (smallP_of h)
theorem inkB_pts {S : List St} (h : inkB (ptsOf S) = true) : ∀ s ∈ S, ptsB s.l := fun s hs => by
  obtain ⟨k, hk, rfl⟩ := List.mem_iff_getElem.1 hs
  exact (strB_true ((inkB_true h).2 k hk)).2.2.1
theorem inkB_pos {S : List St} (h : inkB (ptsOf S) = true) : ∀ s ∈ S, 0 < s.l.length := fun s hs => by
  obtain ⟨k, hk, rfl⟩ := List.mem_iff_getElem.1 hs
  exact (strB_true ((inkB_true h).2 k hk)).1
theorem inkB_big {S : List St} (h : inkB (ptsOf S) = true) : ∀ s ∈ S, s.l.length ≤ 1048576 := small_big (smallP_of h) rfl
end Go.Proofs.Ytnmmnikoogjhoaa
