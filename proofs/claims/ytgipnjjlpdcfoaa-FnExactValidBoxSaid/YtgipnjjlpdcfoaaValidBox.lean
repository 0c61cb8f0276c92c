/-
  The law of ValidBox returns true: program and reference ask the same of a box.
-/
import Derived.Test.YtgipnjjlpdcfoaaBox
namespace Go.Proofs.Ytgipnjjlpdcfoaa
open Go.RowKit
set_option maxHeartbeats 1000000 in
theorem law_ValidBox (a b c d : Int) (_w : True) (w : World) :
    Calls Try.prog 6 #[.agg #[.int .i64 a, .int .i64 b, .int .i64 c, .int .i64 d]] w (Yes w) := by
  go_enter Try.func6, Try.ntmps6
  go_wp2_with fail
  refine (toBox_any a b c d _).mono ?_
  rintro e w1 ⟨rfl, hb1⟩
  obtain ⟨hc1, hf1⟩ := bcell hb1
  have hz1 : w.heap.size < w1.heap.size := by have := hb1.size; simp at this; omega
  go_wp2_with fail
  refine (sValidBox a b c d _).mono ?_
  rintro e w2 ⟨rfl, hb2⟩
  obtain ⟨hc2, hf2⟩ := bcell hb2
  have hz2 : w.heap.size < w2.heap.size := by have := hb2.size; omega
  go_wp2_with fail
  refine (toBox_any a b c d _).mono ?_
  rintro e w3 ⟨rfl, hb3⟩
  go_wp2_with fail
  refine (iValidBox a b c d _).mono ?_
  rintro e w4 ⟨rfl, hb4⟩
  go_wp2
  go_ret
  refine ⟨rfl, ((Below.refl _ _).alloc (Nat.le_refl _) _).trans ((((hb1.mono ?_).trans (hb2.mono ?_)).trans (hb3.mono ?_)).trans (hb4.mono ?_))⟩
  all_goals (have := hb3.size; first | omega | (simp; omega) | (simp; done))
end Go.Proofs.Ytgipnjjlpdcfoaa
