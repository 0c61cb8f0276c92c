/-
  The law of SegmentLength returns true: program and reference compute the same length, or refuse alike.
-/
import Derived.Test.YtpgklkjidccngaaLength
namespace Go.Proofs.Ytpgklkjidccngaa
set_option linter.unusedSimpArgs false
set_option linter.unusedVariables false
open Go.RowKit

def segR (a b : Pt) : Int × Int := if (ptB a && ptB b) = true then (lenI a b, 0) else (0, 1)

set_option maxHeartbeats 2000000 in
theorem sSegmentLength (a b : Pt) (w : World) :
    Calls Try.prog 31 #[.agg #[.int .i64 a.x, .int .i64 a.y, .int .i64 a.t], .agg #[.int .i64 b.x, .int .i64 b.y, .int .i64 b.t]] w fun e w' => e = .returned (.tuple #[.int .i64 (segR a b).1, .int .i64 (segR a b).2]) ∧ Below w.heap.size w w' := by
  cases h1 : ptB a <;> cases h2 : ptB b
  all_goals have hR : Hid (segR a b = if (ptB a && ptB b) = true then (lenI a b, 0) else (0, 1)) := rfl
  all_goals go_enter Try.func31, Try.ntmps31
  all_goals go_wp2_with (first | (go_at_call 43; (with_reducible refine (l02Point_any ⟨_, _, _⟩ _).mono ?_); rintro e w' ⟨rfl, hb⟩; have HB : Below w.heap.size w w' := Below.next (by go_grown) hb; have hz := HB.size; obtain ⟨hc, hf⟩ := bcell hb; have hz2 := hb.size; (try simp only [World.size_alloc] at hz2); (try have hy0 : w.heap.size < w'.heap.size := by omega); (try have hy1 : w.heap.size + 1 < w'.heap.size := by omega); clear hb) | (go_at_call 60; (with_reducible refine (l05Length_any a b _ h1 h2).mono ?_); rintro e w' ⟨rfl, hb⟩; have HB : Below w.heap.size w w' := Below.next (by go_grown) hb; have hz := HB.size; obtain ⟨hc, hf⟩ := bcell hb; have hz2 := hb.size; (try simp only [World.size_alloc] at hz2); (try have hy0 : w.heap.size < w'.heap.size := by omega); (try have hy1 : w.heap.size + 1 < w'.heap.size := by omega); clear hb))
  all_goals go_ret2
  all_goals exact ⟨by rw [hR.out, h1, h2]; rfl, HB⟩
set_option maxHeartbeats 2000000 in
theorem iSegmentLength (a b : Pt) (w : World) :
    Calls Try.prog 32 #[.agg #[.int .i64 a.x, .int .i64 a.y, .int .i64 a.t], .agg #[.int .i64 b.x, .int .i64 b.y, .int .i64 b.t]] w fun e w' => e = .returned (.tuple #[.int .i64 (segR a b).1, .int .i64 (segR a b).2]) ∧ Below w.heap.size w w' := by
  cases h1 : ptB a <;> cases h2 : ptB b
  all_goals have hR : Hid (segR a b = if (ptB a && ptB b) = true then (lenI a b, 0) else (0, 1)) := rfl
  all_goals go_enter Try.func32, Try.ntmps32
  all_goals go_wp2_with (first | (go_at_call 45; (with_reducible refine (iValidPoint ⟨_, _, _⟩ _).mono ?_); rintro e w' ⟨rfl, hb⟩; have HB : Below w.heap.size w w' := Below.next (by go_grown) hb; have hz := HB.size; obtain ⟨hc, hf⟩ := bcell hb; have hz2 := hb.size; (try simp only [World.size_alloc] at hz2); (try have hy0 : w.heap.size < w'.heap.size := by omega); (try have hy1 : w.heap.size + 1 < w'.heap.size := by omega); clear hb) | (go_at_call 61; (with_reducible refine (lengthOf_any a b _ h1 h2).mono ?_); rintro e w' ⟨rfl, hb⟩; have HB : Below w.heap.size w w' := Below.next (by go_grown) hb; have hz := HB.size; obtain ⟨hc, hf⟩ := bcell hb; have hz2 := hb.size; (try simp only [World.size_alloc] at hz2); (try have hy0 : w.heap.size < w'.heap.size := by omega); (try have hy1 : w.heap.size + 1 < w'.heap.size := by omega); clear hb))
  all_goals go_ret2
  all_goals exact ⟨by rw [hR.out, h1, h2]; rfl, HB⟩

set_option maxHeartbeats 2000000 in
theorem law_SegmentLength (a : Pt) (_wa : a.wf) (b : Pt) (_wb : b.wf) (w : World) :
    Calls Try.prog 9 #[.agg #[.int .i64 a.x, .int .i64 a.y, .int .i64 a.t], .agg #[.int .i64 b.x, .int .i64 b.y, .int .i64 b.t]] w (Yes w) := by
  clear _wa _wb
  go_enter Try.func9, Try.ntmps9
  go_wp2_with fail
  go_region_held3 (fun w' => (∀ kb ko, kb < ((w.alloc (.cells #[.int .i64 a.x, .int .i64 a.y, .int .i64 a.t] 26)).alloc (.cells #[.int .i64 b.x, .int .i64 b.y, .int .i64 b.t] 26)).heap.size → w'.cell? ⟨kb, ko, none⟩ = ((w.alloc (.cells #[.int .i64 a.x, .int .i64 a.y, .int .i64 a.t] 26)).alloc (.cells #[.int .i64 b.x, .int .i64 b.y, .int .i64 b.t] 26)).cell? ⟨kb, ko, none⟩) ∧ ((w.alloc (.cells #[.int .i64 a.x, .int .i64 a.y, .int .i64 a.t] 26)).alloc (.cells #[.int .i64 b.x, .int .i64 b.y, .int .i64 b.t] 26)).heap.size ≤ w'.heap.size ∧ Below ((w.alloc (.cells #[.int .i64 a.x, .int .i64 a.y, .int .i64 a.t] 26)).alloc (.cells #[.int .i64 b.x, .int .i64 b.y, .int .i64 b.t] 26)).heap.size ((w.alloc (.cells #[.int .i64 a.x, .int .i64 a.y, .int .i64 a.t] 26)).alloc (.cells #[.int .i64 b.x, .int .i64 b.y, .int .i64 b.t] 26)) w') (first | exact SB.mk hkB | exact SB.mk ((Below.refl _ _).drew) | (go_split_ands; refine SB.mk (Below.drew ?_); assumption) | (refine SB.mk ?_; go_grown; done) | (go_split_ands; refine SB.mk ?_; go_grown; done)) (first | (go_at_call 16; (with_reducible refine (toPoint_any ⟨_, _, _⟩ _).mono ?_); rintro e w' ⟨rfl, hb⟩; obtain ⟨_, hks, hkB⟩ := SB.next (by assumption) hb; obtain ⟨hkc, hkf⟩ := bcell hb; have hkz := hb.size; (try simp only [World.size_alloc, World.size_drew] at hkz); (first | (have hkt := Nat.lt_of_succ_le hkz) | (have hkt := Nat.lt_of_lt_of_le (by assumption) hkz) | skip); clear hb) | (go_at_call 31; (with_reducible refine (sSegmentLength a b _).mono ?_); rintro e w' ⟨rfl, hb⟩; obtain ⟨_, hks, hkB⟩ := SB.next (by assumption) hb; obtain ⟨hkc, hkf⟩ := bcell hb; have hkz := hb.size; (try simp only [World.size_alloc, World.size_drew] at hkz); (first | (have hkt := Nat.lt_of_succ_le hkz) | (have hkt := Nat.lt_of_lt_of_le (by assumption) hkz) | skip); clear hb))
  go_split_ands
  go_wp2_with fail
  go_region_held3 (fun w' => (∀ kb ko, kb < ((w.alloc (.cells #[.int .i64 a.x, .int .i64 a.y, .int .i64 a.t] 26)).alloc (.cells #[.int .i64 b.x, .int .i64 b.y, .int .i64 b.t] 26)).heap.size → w'.cell? ⟨kb, ko, none⟩ = ((w.alloc (.cells #[.int .i64 a.x, .int .i64 a.y, .int .i64 a.t] 26)).alloc (.cells #[.int .i64 b.x, .int .i64 b.y, .int .i64 b.t] 26)).cell? ⟨kb, ko, none⟩) ∧ ((w.alloc (.cells #[.int .i64 a.x, .int .i64 a.y, .int .i64 a.t] 26)).alloc (.cells #[.int .i64 b.x, .int .i64 b.y, .int .i64 b.t] 26)).heap.size ≤ w'.heap.size ∧ Below ((w.alloc (.cells #[.int .i64 a.x, .int .i64 a.y, .int .i64 a.t] 26)).alloc (.cells #[.int .i64 b.x, .int .i64 b.y, .int .i64 b.t] 26)).heap.size ((w.alloc (.cells #[.int .i64 a.x, .int .i64 a.y, .int .i64 a.t] 26)).alloc (.cells #[.int .i64 b.x, .int .i64 b.y, .int .i64 b.t] 26)) w') (first | exact SB.mk hkB | exact SB.mk ((Below.refl _ _).drew) | (go_split_ands; refine SB.mk (Below.drew ?_); assumption) | (refine SB.mk ?_; go_grown; done) | (go_split_ands; refine SB.mk ?_; go_grown; done)) (first | (go_at_call 16; (with_reducible refine (toPoint_any ⟨_, _, _⟩ _).mono ?_); rintro e w' ⟨rfl, hb⟩; obtain ⟨_, hks, hkB⟩ := SB.next (by assumption) hb; obtain ⟨hkc, hkf⟩ := bcell hb; have hkz := hb.size; (try simp only [World.size_alloc, World.size_drew] at hkz); (first | (have hkt := Nat.lt_of_succ_le hkz) | (have hkt := Nat.lt_of_lt_of_le (by assumption) hkz) | skip); clear hb) | (go_at_call 32; (with_reducible refine (iSegmentLength a b _).mono ?_); rintro e w' ⟨rfl, hb⟩; obtain ⟨_, hks, hkB⟩ := SB.next (by assumption) hb; obtain ⟨hkc, hkf⟩ := bcell hb; have hkz := hb.size; (try simp only [World.size_alloc, World.size_drew] at hkz); (first | (have hkt := Nat.lt_of_succ_le hkz) | (have hkt := Nat.lt_of_lt_of_le (by assumption) hkz) | skip); clear hb))
  go_split_ands
  go_wp2_with fail
  go_ret
  refine ⟨rfl, Below.trans ?_ (Below.mono (by assumption) ?_)⟩
  · go_grown
  · go_size
end Go.Proofs.Ytpgklkjidccngaa
