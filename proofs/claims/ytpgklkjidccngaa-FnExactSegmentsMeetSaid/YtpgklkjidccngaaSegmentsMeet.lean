/-
  The law of SegmentsMeet returns true: program and reference answer alike.
-/
import Derived.Test.YtpgklkjidccngaaMeetS
namespace Go.Proofs.Ytpgklkjidccngaa
set_option linter.unusedSimpArgs false
set_option linter.unusedVariables false
open Go.RowKit

def smB (a b c d : Pt) : Bool := ptB a && ptB b && ptB c && ptB d && meetB a b c d

set_option maxHeartbeats 8000000 in
theorem sSegmentsMeet (a b c d : Pt) (w : World) :
    Calls Try.prog 33 #[.agg #[.int .i64 a.x, .int .i64 a.y, .int .i64 a.t], .agg #[.int .i64 b.x, .int .i64 b.y, .int .i64 b.t], .agg #[.int .i64 c.x, .int .i64 c.y, .int .i64 c.t], .agg #[.int .i64 d.x, .int .i64 d.y, .int .i64 d.t]] w fun e w' => e = .returned (.bool (smB a b c d)) ∧ Below w.heap.size w w' := by
  cases h1 : ptB a
  · go_enter Try.func33, Try.ntmps33
    go_wp2_with (go_at_call 43; (with_reducible refine (l02Point_any ⟨_, _, _⟩ _).mono ?_); rintro e w' ⟨rfl, hb⟩; have HB : Below w.heap.size w w' := Below.next (by go_grown) hb; have hz := HB.size; obtain ⟨hc, hf⟩ := bcell hb; have hz2 := hb.size; (try simp only [World.size_alloc] at hz2); (try have hy0 : w.heap.size < w'.heap.size := by omega); (try have hy1 : w.heap.size + 1 < w'.heap.size := by omega); (try have hy2 : w.heap.size + 1 + 1 < w'.heap.size := by omega); (try have hy3 : w.heap.size + 1 + 1 + 1 < w'.heap.size := by omega); clear hb)
    go_ret
    exact ⟨ret_bool (by rw [smB, h1]; rfl), HB⟩
  · cases h2 : ptB b
    · go_enter Try.func33, Try.ntmps33
      go_wp2_with (go_at_call 43; (with_reducible refine (l02Point_any ⟨_, _, _⟩ _).mono ?_); rintro e w' ⟨rfl, hb⟩; have HB : Below w.heap.size w w' := Below.next (by go_grown) hb; have hz := HB.size; obtain ⟨hc, hf⟩ := bcell hb; have hz2 := hb.size; (try simp only [World.size_alloc] at hz2); (try have hy0 : w.heap.size < w'.heap.size := by omega); (try have hy1 : w.heap.size + 1 < w'.heap.size := by omega); (try have hy2 : w.heap.size + 1 + 1 < w'.heap.size := by omega); (try have hy3 : w.heap.size + 1 + 1 + 1 < w'.heap.size := by omega); clear hb)
      go_ret
      exact ⟨ret_bool (by rw [smB, h1, h2]; rfl), HB⟩
    · cases h3 : ptB c
      · go_enter Try.func33, Try.ntmps33
        go_wp2_with (go_at_call 43; (with_reducible refine (l02Point_any ⟨_, _, _⟩ _).mono ?_); rintro e w' ⟨rfl, hb⟩; have HB : Below w.heap.size w w' := Below.next (by go_grown) hb; have hz := HB.size; obtain ⟨hc, hf⟩ := bcell hb; have hz2 := hb.size; (try simp only [World.size_alloc] at hz2); (try have hy0 : w.heap.size < w'.heap.size := by omega); (try have hy1 : w.heap.size + 1 < w'.heap.size := by omega); (try have hy2 : w.heap.size + 1 + 1 < w'.heap.size := by omega); (try have hy3 : w.heap.size + 1 + 1 + 1 < w'.heap.size := by omega); clear hb)
        go_ret
        exact ⟨ret_bool (by rw [smB, h1, h2, h3]; rfl), HB⟩
      · cases h4 : ptB d
        · go_enter Try.func33, Try.ntmps33
          go_wp2_with (go_at_call 43; (with_reducible refine (l02Point_any ⟨_, _, _⟩ _).mono ?_); rintro e w' ⟨rfl, hb⟩; have HB : Below w.heap.size w w' := Below.next (by go_grown) hb; have hz := HB.size; obtain ⟨hc, hf⟩ := bcell hb; have hz2 := hb.size; (try simp only [World.size_alloc] at hz2); (try have hy0 : w.heap.size < w'.heap.size := by omega); (try have hy1 : w.heap.size + 1 < w'.heap.size := by omega); (try have hy2 : w.heap.size + 1 + 1 < w'.heap.size := by omega); (try have hy3 : w.heap.size + 1 + 1 + 1 < w'.heap.size := by omega); clear hb)
          go_ret
          exact ⟨ret_bool (by rw [smB, h1, h2, h3, h4]; rfl), HB⟩
        · go_enter Try.func33, Try.ntmps33
          go_wp2_with (first | (go_at_call 43; (with_reducible refine (l02Point_any ⟨_, _, _⟩ _).mono ?_); rintro e w' ⟨rfl, hb⟩; have HB : Below w.heap.size w w' := Below.next (by go_grown) hb; have hz := HB.size; obtain ⟨hc, hf⟩ := bcell hb; have hz2 := hb.size; (try simp only [World.size_alloc] at hz2); (try have hy0 : w.heap.size < w'.heap.size := by omega); (try have hy1 : w.heap.size + 1 < w'.heap.size := by omega); (try have hy2 : w.heap.size + 1 + 1 < w'.heap.size := by omega); (try have hy3 : w.heap.size + 1 + 1 + 1 < w'.heap.size := by omega); clear hb) | (go_at_call 62; (with_reducible refine (l05Meet_any a b c d _ h1 h2 h3 h4).mono ?_); rintro e w' ⟨rfl, hb⟩; have HB : Below w.heap.size w w' := Below.next (by go_grown) hb; have hz := HB.size; obtain ⟨hc, hf⟩ := bcell hb; have hz2 := hb.size; (try simp only [World.size_alloc] at hz2); (try have hy0 : w.heap.size < w'.heap.size := by omega); (try have hy1 : w.heap.size + 1 < w'.heap.size := by omega); (try have hy2 : w.heap.size + 1 + 1 < w'.heap.size := by omega); (try have hy3 : w.heap.size + 1 + 1 + 1 < w'.heap.size := by omega); clear hb))
          go_ret
          exact ⟨ret_bool (by rw [smB, h1, h2, h3, h4]; simp), HB⟩

set_option maxHeartbeats 8000000 in
theorem iSegmentsMeet (a b c d : Pt) (w : World) :
    Calls Try.prog 34 #[.agg #[.int .i64 a.x, .int .i64 a.y, .int .i64 a.t], .agg #[.int .i64 b.x, .int .i64 b.y, .int .i64 b.t], .agg #[.int .i64 c.x, .int .i64 c.y, .int .i64 c.t], .agg #[.int .i64 d.x, .int .i64 d.y, .int .i64 d.t]] w fun e w' => e = .returned (.bool (smB a b c d)) ∧ Below w.heap.size w w' := by
  cases h1 : ptB a
  · go_enter Try.func34, Try.ntmps34
    go_wp2_with (go_at_call 45; (with_reducible refine (iValidPoint ⟨_, _, _⟩ _).mono ?_); rintro e w' ⟨rfl, hb⟩; have HB : Below w.heap.size w w' := Below.next (by go_grown) hb; have hz := HB.size; obtain ⟨hc, hf⟩ := bcell hb; have hz2 := hb.size; (try simp only [World.size_alloc] at hz2); (try have hy0 : w.heap.size < w'.heap.size := by omega); (try have hy1 : w.heap.size + 1 < w'.heap.size := by omega); (try have hy2 : w.heap.size + 1 + 1 < w'.heap.size := by omega); (try have hy3 : w.heap.size + 1 + 1 + 1 < w'.heap.size := by omega); clear hb)
    go_ret
    exact ⟨ret_bool (by rw [smB, h1]; rfl), HB⟩
  · cases h2 : ptB b
    · go_enter Try.func34, Try.ntmps34
      go_wp2_with (go_at_call 45; (with_reducible refine (iValidPoint ⟨_, _, _⟩ _).mono ?_); rintro e w' ⟨rfl, hb⟩; have HB : Below w.heap.size w w' := Below.next (by go_grown) hb; have hz := HB.size; obtain ⟨hc, hf⟩ := bcell hb; have hz2 := hb.size; (try simp only [World.size_alloc] at hz2); (try have hy0 : w.heap.size < w'.heap.size := by omega); (try have hy1 : w.heap.size + 1 < w'.heap.size := by omega); (try have hy2 : w.heap.size + 1 + 1 < w'.heap.size := by omega); (try have hy3 : w.heap.size + 1 + 1 + 1 < w'.heap.size := by omega); clear hb)
      go_ret
      exact ⟨ret_bool (by rw [smB, h1, h2]; rfl), HB⟩
    · cases h3 : ptB c
      · go_enter Try.func34, Try.ntmps34
        go_wp2_with (go_at_call 45; (with_reducible refine (iValidPoint ⟨_, _, _⟩ _).mono ?_); rintro e w' ⟨rfl, hb⟩; have HB : Below w.heap.size w w' := Below.next (by go_grown) hb; have hz := HB.size; obtain ⟨hc, hf⟩ := bcell hb; have hz2 := hb.size; (try simp only [World.size_alloc] at hz2); (try have hy0 : w.heap.size < w'.heap.size := by omega); (try have hy1 : w.heap.size + 1 < w'.heap.size := by omega); (try have hy2 : w.heap.size + 1 + 1 < w'.heap.size := by omega); (try have hy3 : w.heap.size + 1 + 1 + 1 < w'.heap.size := by omega); clear hb)
        go_ret
        exact ⟨ret_bool (by rw [smB, h1, h2, h3]; rfl), HB⟩
      · cases h4 : ptB d
        · go_enter Try.func34, Try.ntmps34
          go_wp2_with (go_at_call 45; (with_reducible refine (iValidPoint ⟨_, _, _⟩ _).mono ?_); rintro e w' ⟨rfl, hb⟩; have HB : Below w.heap.size w w' := Below.next (by go_grown) hb; have hz := HB.size; obtain ⟨hc, hf⟩ := bcell hb; have hz2 := hb.size; (try simp only [World.size_alloc] at hz2); (try have hy0 : w.heap.size < w'.heap.size := by omega); (try have hy1 : w.heap.size + 1 < w'.heap.size := by omega); (try have hy2 : w.heap.size + 1 + 1 < w'.heap.size := by omega); (try have hy3 : w.heap.size + 1 + 1 + 1 < w'.heap.size := by omega); clear hb)
          go_ret
          exact ⟨ret_bool (by rw [smB, h1, h2, h3, h4]; rfl), HB⟩
        · go_enter Try.func34, Try.ntmps34
          go_wp2_with (first | (go_at_call 45; (with_reducible refine (iValidPoint ⟨_, _, _⟩ _).mono ?_); rintro e w' ⟨rfl, hb⟩; have HB : Below w.heap.size w w' := Below.next (by go_grown) hb; have hz := HB.size; obtain ⟨hc, hf⟩ := bcell hb; have hz2 := hb.size; (try simp only [World.size_alloc] at hz2); (try have hy0 : w.heap.size < w'.heap.size := by omega); (try have hy1 : w.heap.size + 1 < w'.heap.size := by omega); (try have hy2 : w.heap.size + 1 + 1 < w'.heap.size := by omega); (try have hy3 : w.heap.size + 1 + 1 + 1 < w'.heap.size := by omega); clear hb) | (go_at_call 63; (with_reducible refine (meet_any a b c d _ h1 h2 h3 h4).mono ?_); rintro e w' ⟨rfl, hb⟩; have HB : Below w.heap.size w w' := Below.next (by go_grown) hb; have hz := HB.size; obtain ⟨hc, hf⟩ := bcell hb; have hz2 := hb.size; (try simp only [World.size_alloc] at hz2); (try have hy0 : w.heap.size < w'.heap.size := by omega); (try have hy1 : w.heap.size + 1 < w'.heap.size := by omega); (try have hy2 : w.heap.size + 1 + 1 < w'.heap.size := by omega); (try have hy3 : w.heap.size + 1 + 1 + 1 < w'.heap.size := by omega); clear hb))
          go_ret
          exact ⟨ret_bool (by rw [smB, h1, h2, h3, h4]; simp), HB⟩

set_option maxHeartbeats 4000000 in
theorem law_SegmentsMeet (a : Pt) (_wa : a.wf) (b : Pt) (_wb : b.wf) (c : Pt) (_wc : c.wf) (d : Pt) (_wd : d.wf) (w : World) :
    Calls Try.prog 10 #[.agg #[.int .i64 a.x, .int .i64 a.y, .int .i64 a.t], .agg #[.int .i64 b.x, .int .i64 b.y, .int .i64 b.t], .agg #[.int .i64 c.x, .int .i64 c.y, .int .i64 c.t], .agg #[.int .i64 d.x, .int .i64 d.y, .int .i64 d.t]] w (Yes w) := by
  clear _wa _wb _wc _wd
  go_enter Try.func10, Try.ntmps10
  go_wp2_with fail
  go_region_held3 (fun w' => (∀ kb ko, kb < ((((w.alloc (.cells #[.int .i64 a.x, .int .i64 a.y, .int .i64 a.t] 26)).alloc (.cells #[.int .i64 b.x, .int .i64 b.y, .int .i64 b.t] 26)).alloc (.cells #[.int .i64 c.x, .int .i64 c.y, .int .i64 c.t] 26)).alloc (.cells #[.int .i64 d.x, .int .i64 d.y, .int .i64 d.t] 26)).heap.size → w'.cell? ⟨kb, ko, none⟩ = ((((w.alloc (.cells #[.int .i64 a.x, .int .i64 a.y, .int .i64 a.t] 26)).alloc (.cells #[.int .i64 b.x, .int .i64 b.y, .int .i64 b.t] 26)).alloc (.cells #[.int .i64 c.x, .int .i64 c.y, .int .i64 c.t] 26)).alloc (.cells #[.int .i64 d.x, .int .i64 d.y, .int .i64 d.t] 26)).cell? ⟨kb, ko, none⟩) ∧ ((((w.alloc (.cells #[.int .i64 a.x, .int .i64 a.y, .int .i64 a.t] 26)).alloc (.cells #[.int .i64 b.x, .int .i64 b.y, .int .i64 b.t] 26)).alloc (.cells #[.int .i64 c.x, .int .i64 c.y, .int .i64 c.t] 26)).alloc (.cells #[.int .i64 d.x, .int .i64 d.y, .int .i64 d.t] 26)).heap.size ≤ w'.heap.size ∧ Below ((((w.alloc (.cells #[.int .i64 a.x, .int .i64 a.y, .int .i64 a.t] 26)).alloc (.cells #[.int .i64 b.x, .int .i64 b.y, .int .i64 b.t] 26)).alloc (.cells #[.int .i64 c.x, .int .i64 c.y, .int .i64 c.t] 26)).alloc (.cells #[.int .i64 d.x, .int .i64 d.y, .int .i64 d.t] 26)).heap.size ((((w.alloc (.cells #[.int .i64 a.x, .int .i64 a.y, .int .i64 a.t] 26)).alloc (.cells #[.int .i64 b.x, .int .i64 b.y, .int .i64 b.t] 26)).alloc (.cells #[.int .i64 c.x, .int .i64 c.y, .int .i64 c.t] 26)).alloc (.cells #[.int .i64 d.x, .int .i64 d.y, .int .i64 d.t] 26)) w') (first | exact SB.mk hkB | exact SB.mk ((Below.refl _ _).drew) | (go_split_ands; refine SB.mk (Below.drew ?_); assumption) | (refine SB.mk ?_; go_grown; done) | (go_split_ands; refine SB.mk ?_; go_grown; done)) (first | (go_at_call 16; (with_reducible refine (toPoint_any ⟨_, _, _⟩ _).mono ?_); rintro e w' ⟨rfl, hb⟩; obtain ⟨_, hks, hkB⟩ := SB.next (by assumption) hb; obtain ⟨hkc, hkf⟩ := bcell hb; have hkz := hb.size; (try simp only [World.size_alloc, World.size_drew] at hkz); (first | (have hkt := Nat.lt_of_succ_le hkz) | (have hkt := Nat.lt_of_lt_of_le (by assumption) hkz) | skip); clear hb) | (go_at_call 33; (with_reducible refine (sSegmentsMeet a b c d _).mono ?_); rintro e w' ⟨rfl, hb⟩; obtain ⟨_, hks, hkB⟩ := SB.next (by assumption) hb; obtain ⟨hkc, hkf⟩ := bcell hb; have hkz := hb.size; (try simp only [World.size_alloc, World.size_drew] at hkz); (first | (have hkt := Nat.lt_of_succ_le hkz) | (have hkt := Nat.lt_of_lt_of_le (by assumption) hkz) | skip); clear hb))
  go_split_ands
  go_wp2_with fail
  go_region_held3 (fun w' => (∀ kb ko, kb < ((((w.alloc (.cells #[.int .i64 a.x, .int .i64 a.y, .int .i64 a.t] 26)).alloc (.cells #[.int .i64 b.x, .int .i64 b.y, .int .i64 b.t] 26)).alloc (.cells #[.int .i64 c.x, .int .i64 c.y, .int .i64 c.t] 26)).alloc (.cells #[.int .i64 d.x, .int .i64 d.y, .int .i64 d.t] 26)).heap.size → w'.cell? ⟨kb, ko, none⟩ = ((((w.alloc (.cells #[.int .i64 a.x, .int .i64 a.y, .int .i64 a.t] 26)).alloc (.cells #[.int .i64 b.x, .int .i64 b.y, .int .i64 b.t] 26)).alloc (.cells #[.int .i64 c.x, .int .i64 c.y, .int .i64 c.t] 26)).alloc (.cells #[.int .i64 d.x, .int .i64 d.y, .int .i64 d.t] 26)).cell? ⟨kb, ko, none⟩) ∧ ((((w.alloc (.cells #[.int .i64 a.x, .int .i64 a.y, .int .i64 a.t] 26)).alloc (.cells #[.int .i64 b.x, .int .i64 b.y, .int .i64 b.t] 26)).alloc (.cells #[.int .i64 c.x, .int .i64 c.y, .int .i64 c.t] 26)).alloc (.cells #[.int .i64 d.x, .int .i64 d.y, .int .i64 d.t] 26)).heap.size ≤ w'.heap.size ∧ Below ((((w.alloc (.cells #[.int .i64 a.x, .int .i64 a.y, .int .i64 a.t] 26)).alloc (.cells #[.int .i64 b.x, .int .i64 b.y, .int .i64 b.t] 26)).alloc (.cells #[.int .i64 c.x, .int .i64 c.y, .int .i64 c.t] 26)).alloc (.cells #[.int .i64 d.x, .int .i64 d.y, .int .i64 d.t] 26)).heap.size ((((w.alloc (.cells #[.int .i64 a.x, .int .i64 a.y, .int .i64 a.t] 26)).alloc (.cells #[.int .i64 b.x, .int .i64 b.y, .int .i64 b.t] 26)).alloc (.cells #[.int .i64 c.x, .int .i64 c.y, .int .i64 c.t] 26)).alloc (.cells #[.int .i64 d.x, .int .i64 d.y, .int .i64 d.t] 26)) w') (first | exact SB.mk hkB | exact SB.mk ((Below.refl _ _).drew) | (go_split_ands; refine SB.mk (Below.drew ?_); assumption) | (refine SB.mk ?_; go_grown; done) | (go_split_ands; refine SB.mk ?_; go_grown; done)) (first | (go_at_call 16; (with_reducible refine (toPoint_any ⟨_, _, _⟩ _).mono ?_); rintro e w' ⟨rfl, hb⟩; obtain ⟨_, hks, hkB⟩ := SB.next (by assumption) hb; obtain ⟨hkc, hkf⟩ := bcell hb; have hkz := hb.size; (try simp only [World.size_alloc, World.size_drew] at hkz); (first | (have hkt := Nat.lt_of_succ_le hkz) | (have hkt := Nat.lt_of_lt_of_le (by assumption) hkz) | skip); clear hb) | (go_at_call 34; (with_reducible refine (iSegmentsMeet a b c d _).mono ?_); rintro e w' ⟨rfl, hb⟩; obtain ⟨_, hks, hkB⟩ := SB.next (by assumption) hb; obtain ⟨hkc, hkf⟩ := bcell hb; have hkz := hb.size; (try simp only [World.size_alloc, World.size_drew] at hkz); (first | (have hkt := Nat.lt_of_succ_le hkz) | (have hkt := Nat.lt_of_lt_of_le (by assumption) hkz) | skip); clear hb))
  go_split_ands
  go_wp2_with fail
  go_ret
  refine ⟨rfl, Below.trans ?_ (Below.mono (by assumption) ?_)⟩
  · go_grown
  · go_size
end Go.Proofs.Ytpgklkjidccngaa
