/-
  Whether two segments meet: the reference answers as the program does.
-/
import Derived.Test.YtcglcfjonicjgaaOn
namespace Go.Proofs.Ytcglcfjonicjgaa
set_option linter.unusedSimpArgs false
set_option linter.unusedVariables false
open Go.RowKit

set_option maxHeartbeats 8000000 in
theorem l05Meet_any (a b c d : Pt) (w : World) (pa : ptB a = true) (pb : ptB b = true) (pc : ptB c = true) (pd : ptB d = true) :
    Calls Try.prog 88 #[.agg #[.int .i64 a.x, .int .i64 a.y, .int .i64 a.t], .agg #[.int .i64 b.x, .int .i64 b.y, .int .i64 b.t], .agg #[.int .i64 c.x, .int .i64 c.y, .int .i64 c.t], .agg #[.int .i64 d.x, .int .i64 d.y, .int .i64 d.t]] w fun e w' => e = .returned (.bool (meetB a b c d)) ∧ Below w.heap.size w w' := by
  have q1 := turn_prod a b c a b d
  have q2 := turn_prod c d a c d b
  go_enter Try.func88, Try.ntmps88
  go_wp2_with (first | (go_at_call 97; (with_reducible refine (l05Turn_any a b c _ pa pb pc).mono ?_); rintro e w' ⟨rfl, hb⟩; have HB : Below w.heap.size w w' := Below.next (by go_grown) hb; have hz := HB.size; obtain ⟨hc, hf⟩ := bcell hb; have hz2 := hb.size; (try simp only [World.size_alloc] at hz2); (try have hy0 : w.heap.size < w'.heap.size := by omega); (try have hy1 : w.heap.size + 1 < w'.heap.size := by omega); (try have hy2 : w.heap.size + 1 + 1 < w'.heap.size := by omega); (try have hy3 : w.heap.size + 1 + 1 + 1 < w'.heap.size := by omega); clear hb) | (go_at_call 97; (with_reducible refine (l05Turn_any a b d _ pa pb pd).mono ?_); rintro e w' ⟨rfl, hb⟩; have HB : Below w.heap.size w w' := Below.next (by go_grown) hb; have hz := HB.size; obtain ⟨hc, hf⟩ := bcell hb; have hz2 := hb.size; (try simp only [World.size_alloc] at hz2); (try have hy0 : w.heap.size < w'.heap.size := by omega); (try have hy1 : w.heap.size + 1 < w'.heap.size := by omega); (try have hy2 : w.heap.size + 1 + 1 < w'.heap.size := by omega); (try have hy3 : w.heap.size + 1 + 1 + 1 < w'.heap.size := by omega); clear hb) | (go_at_call 97; (with_reducible refine (l05Turn_any c d a _ pc pd pa).mono ?_); rintro e w' ⟨rfl, hb⟩; have HB : Below w.heap.size w w' := Below.next (by go_grown) hb; have hz := HB.size; obtain ⟨hc, hf⟩ := bcell hb; have hz2 := hb.size; (try simp only [World.size_alloc] at hz2); (try have hy0 : w.heap.size < w'.heap.size := by omega); (try have hy1 : w.heap.size + 1 < w'.heap.size := by omega); (try have hy2 : w.heap.size + 1 + 1 < w'.heap.size := by omega); (try have hy3 : w.heap.size + 1 + 1 + 1 < w'.heap.size := by omega); clear hb) | (go_at_call 97; (with_reducible refine (l05Turn_any c d b _ pc pd pb).mono ?_); rintro e w' ⟨rfl, hb⟩; have HB : Below w.heap.size w w' := Below.next (by go_grown) hb; have hz := HB.size; obtain ⟨hc, hf⟩ := bcell hb; have hz2 := hb.size; (try simp only [World.size_alloc] at hz2); (try have hy0 : w.heap.size < w'.heap.size := by omega); (try have hy1 : w.heap.size + 1 < w'.heap.size := by omega); (try have hy2 : w.heap.size + 1 + 1 < w'.heap.size := by omega); (try have hy3 : w.heap.size + 1 + 1 + 1 < w'.heap.size := by omega); clear hb) | (go_at_call 98; refine (l05On_or ⟨_, _, _⟩ ⟨_, _, _⟩ ⟨_, _, _⟩ _).mono ?_; rintro e w' (⟨hbt, rfl, hb⟩ | ⟨hbt, rfl, hb⟩) <;> (have HB : Below w.heap.size w w' := Below.next (by go_grown) hb; obtain ⟨hc, hf⟩ := bcell hb; have hy0 : w.heap.size < w'.heap.size := (by have := hb.size; omega); have hy1 : w.heap.size + 1 < w'.heap.size := (by have := hb.size; omega); have hy2 : w.heap.size + 1 + 1 < w'.heap.size := (by have := hb.size; omega); have hy3 : w.heap.size + 1 + 1 + 1 < w'.heap.size := (by have := hb.size; omega); clear hb)))
  all_goals
    go_ret
    refine ⟨ret_bool ?_, HB⟩
    first
      | exact meetB_yes (by first | exact .inl ⟨by assumption, by assumption⟩ | exact .inr (.inl ⟨by assumption, by assumption⟩) | exact .inr (.inr (.inl ⟨by assumption, by assumption⟩)) | exact .inr (.inr (.inr (.inl ⟨by assumption, by assumption⟩))) | exact .inr (.inr (.inr (.inr ⟨by assumption, by assumption⟩))))
      | (refine meetB_no ?_
         rintro (⟨h, h'⟩ | ⟨h, h'⟩ | ⟨h, h'⟩ | ⟨h, h'⟩ | ⟨h, h'⟩) <;> first | omega | exact no_both h' (by assumption))
end Go.Proofs.Ytcglcfjonicjgaa
