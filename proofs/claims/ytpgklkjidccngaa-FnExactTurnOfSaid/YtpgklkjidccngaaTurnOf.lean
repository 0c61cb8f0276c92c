/-
  The law of TurnOf returns true: program and reference compute the same turn, or refuse alike.
-/
import Derived.Test.YtpgklkjidccngaaTurn
namespace Go.Proofs.Ytpgklkjidccngaa
set_option linter.unusedSimpArgs false
set_option linter.unusedVariables false
open Go.RowKit

def turnR (a b c : Pt) : Int × Int := if (ptB a && ptB b && ptB c) = true then (turnI a b c, 0) else (0, 1)

set_option maxHeartbeats 2000000 in
theorem sTurnOf (a b c : Pt) (w : World) :
    Calls Try.prog 15 #[.agg #[.int .i64 a.x, .int .i64 a.y, .int .i64 a.t], .agg #[.int .i64 b.x, .int .i64 b.y, .int .i64 b.t], .agg #[.int .i64 c.x, .int .i64 c.y, .int .i64 c.t]] w fun e w' => e = .returned (.tuple #[.int .i64 (turnR a b c).1, .int .i64 (turnR a b c).2]) ∧ Below w.heap.size w w' := by
  cases h1 : ptB a <;> cases h2 : ptB b <;> cases h3 : ptB c
  all_goals have hR : Hid (turnR a b c = if (ptB a && ptB b && ptB c) = true then (turnI a b c, 0) else (0, 1)) := rfl
  all_goals go_enter Try.func15, Try.ntmps15
  all_goals go_wp2_with (first | (go_at_call 43; refine (l02Point_any ⟨_, _, _⟩ _).mono ?_; rintro e w' ⟨rfl, hb⟩; have HB : Below w.heap.size w w' := Below.next (by go_grown) hb; have hz := HB.size; obtain ⟨hc, hf⟩ := bcell hb; have hz2 := hb.size; (try simp only [World.size_alloc] at hz2); (try have hy0 : w.heap.size < w'.heap.size := by omega); (try have hy1 : w.heap.size + 1 < w'.heap.size := by omega); (try have hy2 : w.heap.size + 1 + 1 < w'.heap.size := by omega); clear hb) | (go_at_call 44; refine (l05Turn_any a b c _ h1 h2 h3).mono ?_; rintro e w' ⟨rfl, hb⟩; have HB : Below w.heap.size w w' := Below.next (by go_grown) hb; have hz := HB.size; obtain ⟨hc, hf⟩ := bcell hb; have hz2 := hb.size; (try simp only [World.size_alloc] at hz2); (try have hy0 : w.heap.size < w'.heap.size := by omega); (try have hy1 : w.heap.size + 1 < w'.heap.size := by omega); (try have hy2 : w.heap.size + 1 + 1 < w'.heap.size := by omega); clear hb))
  all_goals go_ret2
  all_goals exact ⟨by rw [hR.out, h1, h2, h3]; rfl, HB⟩

set_option maxHeartbeats 2000000 in
theorem iTurnOf (a b c : Pt) (w : World) :
    Calls Try.prog 17 #[.agg #[.int .i64 a.x, .int .i64 a.y, .int .i64 a.t], .agg #[.int .i64 b.x, .int .i64 b.y, .int .i64 b.t], .agg #[.int .i64 c.x, .int .i64 c.y, .int .i64 c.t]] w fun e w' => e = .returned (.tuple #[.int .i64 (turnR a b c).1, .int .i64 (turnR a b c).2]) ∧ Below w.heap.size w w' := by
  cases h1 : ptB a <;> cases h2 : ptB b <;> cases h3 : ptB c
  all_goals have hR : Hid (turnR a b c = if (ptB a && ptB b && ptB c) = true then (turnI a b c, 0) else (0, 1)) := rfl
  all_goals go_enter Try.func17, Try.ntmps17
  all_goals go_wp2_with (first | (go_at_call 45; refine (iValidPoint ⟨_, _, _⟩ _).mono ?_; rintro e w' ⟨rfl, hb⟩; have HB : Below w.heap.size w w' := Below.next (by go_grown) hb; have hz := HB.size; obtain ⟨hc, hf⟩ := bcell hb; have hz2 := hb.size; (try simp only [World.size_alloc] at hz2); (try have hy0 : w.heap.size < w'.heap.size := by omega); (try have hy1 : w.heap.size + 1 < w'.heap.size := by omega); (try have hy2 : w.heap.size + 1 + 1 < w'.heap.size := by omega); clear hb) | (go_at_call 46; refine (sideOf_any a b c _ h1 h2 h3).mono ?_; rintro e w' ⟨rfl, hb⟩; have HB : Below w.heap.size w w' := Below.next (by go_grown) hb; have hz := HB.size; obtain ⟨hc, hf⟩ := bcell hb; have hz2 := hb.size; (try simp only [World.size_alloc] at hz2); (try have hy0 : w.heap.size < w'.heap.size := by omega); (try have hy1 : w.heap.size + 1 < w'.heap.size := by omega); (try have hy2 : w.heap.size + 1 + 1 < w'.heap.size := by omega); clear hb))
  all_goals go_ret2
  all_goals exact ⟨by rw [hR.out, h1, h2, h3]; rfl, HB⟩

set_option maxHeartbeats 2000000 in
theorem law_TurnOf (a : Pt) (_wa : a.wf) (b : Pt) (_wb : b.wf) (c : Pt) (_wc : c.wf) (w : World) :
    Calls Try.prog 4 #[.agg #[.int .i64 a.x, .int .i64 a.y, .int .i64 a.t], .agg #[.int .i64 b.x, .int .i64 b.y, .int .i64 b.t], .agg #[.int .i64 c.x, .int .i64 c.y, .int .i64 c.t]] w (Yes w) := by
  clear _wa _wb _wc
  go_enter Try.func4, Try.ntmps4
  go_wp2_with fail
  go_region_held3 (fun w' => (∀ kb ko, kb < (((w.alloc (.cells #[.int .i64 a.x, .int .i64 a.y, .int .i64 a.t] 26)).alloc (.cells #[.int .i64 b.x, .int .i64 b.y, .int .i64 b.t] 26)).alloc (.cells #[.int .i64 c.x, .int .i64 c.y, .int .i64 c.t] 26)).heap.size → w'.cell? ⟨kb, ko, none⟩ = (((w.alloc (.cells #[.int .i64 a.x, .int .i64 a.y, .int .i64 a.t] 26)).alloc (.cells #[.int .i64 b.x, .int .i64 b.y, .int .i64 b.t] 26)).alloc (.cells #[.int .i64 c.x, .int .i64 c.y, .int .i64 c.t] 26)).cell? ⟨kb, ko, none⟩) ∧ (((w.alloc (.cells #[.int .i64 a.x, .int .i64 a.y, .int .i64 a.t] 26)).alloc (.cells #[.int .i64 b.x, .int .i64 b.y, .int .i64 b.t] 26)).alloc (.cells #[.int .i64 c.x, .int .i64 c.y, .int .i64 c.t] 26)).heap.size ≤ w'.heap.size ∧ Below (((w.alloc (.cells #[.int .i64 a.x, .int .i64 a.y, .int .i64 a.t] 26)).alloc (.cells #[.int .i64 b.x, .int .i64 b.y, .int .i64 b.t] 26)).alloc (.cells #[.int .i64 c.x, .int .i64 c.y, .int .i64 c.t] 26)).heap.size (((w.alloc (.cells #[.int .i64 a.x, .int .i64 a.y, .int .i64 a.t] 26)).alloc (.cells #[.int .i64 b.x, .int .i64 b.y, .int .i64 b.t] 26)).alloc (.cells #[.int .i64 c.x, .int .i64 c.y, .int .i64 c.t] 26)) w') (first | exact SB.mk hkB | exact SB.mk ((Below.refl _ _).drew) | (go_split_ands; refine SB.mk (Below.drew ?_); assumption) | (refine SB.mk ?_; go_grown; done) | (go_split_ands; refine SB.mk ?_; go_grown; done)) (first | (go_at_call 16; refine (toPoint_any ⟨_, _, _⟩ _).mono ?_; rintro e w' ⟨rfl, hb⟩; obtain ⟨_, hks, hkB⟩ := SB.next (by assumption) hb; clear hb) | (go_at_call 15; refine (sTurnOf a b c _).mono ?_; rintro e w' ⟨rfl, hb⟩; obtain ⟨_, hks, hkB⟩ := SB.next (by assumption) hb; clear hb))
  go_split_ands
  go_wp2_with fail
  go_region_held3 (fun w' => (∀ kb ko, kb < (((w.alloc (.cells #[.int .i64 a.x, .int .i64 a.y, .int .i64 a.t] 26)).alloc (.cells #[.int .i64 b.x, .int .i64 b.y, .int .i64 b.t] 26)).alloc (.cells #[.int .i64 c.x, .int .i64 c.y, .int .i64 c.t] 26)).heap.size → w'.cell? ⟨kb, ko, none⟩ = (((w.alloc (.cells #[.int .i64 a.x, .int .i64 a.y, .int .i64 a.t] 26)).alloc (.cells #[.int .i64 b.x, .int .i64 b.y, .int .i64 b.t] 26)).alloc (.cells #[.int .i64 c.x, .int .i64 c.y, .int .i64 c.t] 26)).cell? ⟨kb, ko, none⟩) ∧ (((w.alloc (.cells #[.int .i64 a.x, .int .i64 a.y, .int .i64 a.t] 26)).alloc (.cells #[.int .i64 b.x, .int .i64 b.y, .int .i64 b.t] 26)).alloc (.cells #[.int .i64 c.x, .int .i64 c.y, .int .i64 c.t] 26)).heap.size ≤ w'.heap.size ∧ Below (((w.alloc (.cells #[.int .i64 a.x, .int .i64 a.y, .int .i64 a.t] 26)).alloc (.cells #[.int .i64 b.x, .int .i64 b.y, .int .i64 b.t] 26)).alloc (.cells #[.int .i64 c.x, .int .i64 c.y, .int .i64 c.t] 26)).heap.size (((w.alloc (.cells #[.int .i64 a.x, .int .i64 a.y, .int .i64 a.t] 26)).alloc (.cells #[.int .i64 b.x, .int .i64 b.y, .int .i64 b.t] 26)).alloc (.cells #[.int .i64 c.x, .int .i64 c.y, .int .i64 c.t] 26)) w') (first | exact SB.mk hkB | exact SB.mk ((Below.refl _ _).drew) | (go_split_ands; refine SB.mk (Below.drew ?_); assumption) | (refine SB.mk ?_; go_grown; done) | (go_split_ands; refine SB.mk ?_; go_grown; done)) (first | (go_at_call 16; refine (toPoint_any ⟨_, _, _⟩ _).mono ?_; rintro e w' ⟨rfl, hb⟩; obtain ⟨_, hks, hkB⟩ := SB.next (by assumption) hb; clear hb) | (go_at_call 17; refine (iTurnOf a b c _).mono ?_; rintro e w' ⟨rfl, hb⟩; obtain ⟨_, hks, hkB⟩ := SB.next (by assumption) hb; clear hb))
  go_split_ands
  go_wp2_with fail
  go_ret
  refine ⟨rfl, Below.trans ?_ (Below.mono (by assumption) ?_)⟩
  · go_grown
  · go_size
end Go.Proofs.Ytpgklkjidccngaa
