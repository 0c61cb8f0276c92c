/-
  Whether a point lies between two others: the reference answers as the program does.
-/
import Derived.Test.YtcglcfjonicjgaaMeet
namespace Go.Proofs.Ytcglcfjonicjgaa
set_option linter.unusedSimpArgs false
set_option linter.unusedVariables false
open Go.RowKit

set_option maxHeartbeats 4000000 in
theorem l05On_any (a b p : Pt) (w : World) :
    Calls Try.prog 98 #[.agg #[.int .i64 a.x, .int .i64 a.y, .int .i64 a.t], .agg #[.int .i64 b.x, .int .i64 b.y, .int .i64 b.t], .agg #[.int .i64 p.x, .int .i64 p.y, .int .i64 p.t]] w fun e w' => e = .returned (.bool (betwB a b p)) ∧ Below w.heap.size w w' := by
  cases h1 : inB p.x (minI a.x b.x) (maxI a.x b.x) <;> cases h2 : inB p.y (minI a.y b.y) (maxI a.y b.y)
  all_goals go_enter Try.func98, Try.ntmps98
  all_goals go_wp2_with fail
  all_goals go_quiet ((first | (go_at_call 91; first | with_reducible exact quiet_mine (l00Min_any _ _ _) | with_reducible exact quiet_mine2 (l00Min_any _ _ _)) | (go_at_call 95; first | with_reducible exact quiet_mine (l00Max_any _ _ _) | with_reducible exact quiet_mine2 (l00Max_any _ _ _)) | (go_at_call 80; first | with_reducible exact quiet_mine (l00In_of h1 _) | with_reducible exact quiet_mine2 (l00In_of h1 _)) | (go_at_call 80; first | with_reducible exact quiet_mine (l00In_of h2 _) | with_reducible exact quiet_mine2 (l00In_of h2 _))))
  all_goals go_wp2_with fail
  all_goals
    go_ret
    refine ⟨ret_bool (by rw [betwB, h1, h2]; rfl), below_drewN ?_ _⟩
    go_grown


set_option maxHeartbeats 8000000 in
theorem meet_any (a b c d : Pt) (w : World) (ha : ptB a = true) (hb : ptB b = true) (hc : ptB c = true) (hd : ptB d = true) :
    Calls Try.prog 74 #[.agg #[.int .i64 a.x, .int .i64 a.y, .int .i64 a.t], .agg #[.int .i64 b.x, .int .i64 b.y, .int .i64 b.t], .agg #[.int .i64 c.x, .int .i64 c.y, .int .i64 c.t], .agg #[.int .i64 d.x, .int .i64 d.y, .int .i64 d.t]] w fun e w' => e = .returned (.bool (meetB a b c d)) ∧ Below w.heap.size w w' := by
  have q1 := turn_prod a b c a b d
  have q2 := turn_prod c d a c d b
  go_enter Try.func74, Try.ntmps74
  go_wp2_with fail
  go_region_held3 (fun w' => (∀ kb ko, kb < ((((w.alloc (.cells #[.int .i64 a.x, .int .i64 a.y, .int .i64 a.t] 44)).alloc (.cells #[.int .i64 b.x, .int .i64 b.y, .int .i64 b.t] 44)).alloc (.cells #[.int .i64 c.x, .int .i64 c.y, .int .i64 c.t] 44)).alloc (.cells #[.int .i64 d.x, .int .i64 d.y, .int .i64 d.t] 44)).heap.size → w'.cell? ⟨kb, ko, none⟩ = ((((w.alloc (.cells #[.int .i64 a.x, .int .i64 a.y, .int .i64 a.t] 44)).alloc (.cells #[.int .i64 b.x, .int .i64 b.y, .int .i64 b.t] 44)).alloc (.cells #[.int .i64 c.x, .int .i64 c.y, .int .i64 c.t] 44)).alloc (.cells #[.int .i64 d.x, .int .i64 d.y, .int .i64 d.t] 44)).cell? ⟨kb, ko, none⟩) ∧ ((((w.alloc (.cells #[.int .i64 a.x, .int .i64 a.y, .int .i64 a.t] 44)).alloc (.cells #[.int .i64 b.x, .int .i64 b.y, .int .i64 b.t] 44)).alloc (.cells #[.int .i64 c.x, .int .i64 c.y, .int .i64 c.t] 44)).alloc (.cells #[.int .i64 d.x, .int .i64 d.y, .int .i64 d.t] 44)).heap.size ≤ w'.heap.size ∧ Below ((((w.alloc (.cells #[.int .i64 a.x, .int .i64 a.y, .int .i64 a.t] 44)).alloc (.cells #[.int .i64 b.x, .int .i64 b.y, .int .i64 b.t] 44)).alloc (.cells #[.int .i64 c.x, .int .i64 c.y, .int .i64 c.t] 44)).alloc (.cells #[.int .i64 d.x, .int .i64 d.y, .int .i64 d.t] 44)).heap.size ((((w.alloc (.cells #[.int .i64 a.x, .int .i64 a.y, .int .i64 a.t] 44)).alloc (.cells #[.int .i64 b.x, .int .i64 b.y, .int .i64 b.t] 44)).alloc (.cells #[.int .i64 c.x, .int .i64 c.y, .int .i64 c.t] 44)).alloc (.cells #[.int .i64 d.x, .int .i64 d.y, .int .i64 d.t] 44)) w') (first | exact SB.mk hkB | exact SB.mk ((Below.refl _ _).drew) | (go_split_ands; refine SB.mk (Below.drew ?_); assumption) | (refine SB.mk ?_; go_grown; done) | (go_split_ands; refine SB.mk ?_; go_grown; done)) (first | (go_at_call 89; (with_reducible refine (sideOf_any a b c _ ha hb hc).mono ?_); rintro e w' ⟨rfl, hb⟩; obtain ⟨_, hks, hkB⟩ := SB.next (by assumption) hb; obtain ⟨hkc, hkf⟩ := bcell hb; have hkz := hb.size; (try simp only [World.size_alloc, World.size_drew] at hkz); (first | (have hkt := Nat.lt_of_succ_le hkz) | (have hkt := Nat.lt_of_lt_of_le (by assumption) hkz) | skip); clear hb) | (go_at_call 89; (with_reducible refine (sideOf_any a b d _ ha hb hd).mono ?_); rintro e w' ⟨rfl, hb⟩; obtain ⟨_, hks, hkB⟩ := SB.next (by assumption) hb; obtain ⟨hkc, hkf⟩ := bcell hb; have hkz := hb.size; (try simp only [World.size_alloc, World.size_drew] at hkz); (first | (have hkt := Nat.lt_of_succ_le hkz) | (have hkt := Nat.lt_of_lt_of_le (by assumption) hkz) | skip); clear hb) | (go_at_call 89; (with_reducible refine (sideOf_any c d a _ hc hd ha).mono ?_); rintro e w' ⟨rfl, hb⟩; obtain ⟨_, hks, hkB⟩ := SB.next (by assumption) hb; obtain ⟨hkc, hkf⟩ := bcell hb; have hkz := hb.size; (try simp only [World.size_alloc, World.size_drew] at hkz); (first | (have hkt := Nat.lt_of_succ_le hkz) | (have hkt := Nat.lt_of_lt_of_le (by assumption) hkz) | skip); clear hb) | (go_at_call 89; (with_reducible refine (sideOf_any c d b _ hc hd hb).mono ?_); rintro e w' ⟨rfl, hb⟩; obtain ⟨_, hks, hkB⟩ := SB.next (by assumption) hb; obtain ⟨hkc, hkf⟩ := bcell hb; have hkz := hb.size; (try simp only [World.size_alloc, World.size_drew] at hkz); (first | (have hkt := Nat.lt_of_succ_le hkz) | (have hkt := Nat.lt_of_lt_of_le (by assumption) hkz) | skip); clear hb))
  go_split_ands
  have HB : Below w.heap.size w w' := Below.next (by go_grown) hkB
  have hy0 : w.heap.size < w'.heap.size := by simp at hks; omega
  have hy1 : w.heap.size + 1 < w'.heap.size := by simp at hks; omega
  have hy2 : w.heap.size + 1 + 1 < w'.heap.size := by simp at hks; omega
  have hy3 : w.heap.size + 1 + 1 + 1 < w'.heap.size := by simp at hks; omega
  clear hks hkB
  go_wp2_with (go_at_call 90; refine (between_or ⟨_, _, _⟩ ⟨_, _, _⟩ ⟨_, _, _⟩ _).mono ?_; rintro e w' (⟨hbt, rfl, hb⟩ | ⟨hbt, rfl, hb⟩) <;> (have HB : Below w.heap.size w w' := Below.next (by go_grown) hb; obtain ⟨hc, hf⟩ := bcell hb; have hy0 : w.heap.size < w'.heap.size := (by have := hb.size; omega); have hy1 : w.heap.size + 1 < w'.heap.size := (by have := hb.size; omega); have hy2 : w.heap.size + 1 + 1 < w'.heap.size := (by have := hb.size; omega); have hy3 : w.heap.size + 1 + 1 + 1 < w'.heap.size := (by have := hb.size; omega); clear hb))
  all_goals
    go_ret
    refine ⟨ret_bool ?_, HB⟩
    first
      | exact meetB_yes (by first | exact .inl ⟨by assumption, by assumption⟩ | exact .inr (.inl ⟨by assumption, by assumption⟩) | exact .inr (.inr (.inl ⟨by assumption, by assumption⟩)) | exact .inr (.inr (.inr (.inl ⟨by assumption, by assumption⟩))) | exact .inr (.inr (.inr (.inr ⟨by assumption, by assumption⟩))))
      | (refine meetB_no ?_
         rintro (⟨h, h'⟩ | ⟨h, h'⟩ | ⟨h, h'⟩ | ⟨h, h'⟩ | ⟨h, h'⟩) <;> first | omega | exact no_both h' (by assumption))

theorem l05On_or (a b p : Pt) (w : World) :
    Calls Try.prog 98 #[.agg #[.int .i64 a.x, .int .i64 a.y, .int .i64 a.t], .agg #[.int .i64 b.x, .int .i64 b.y, .int .i64 b.t], .agg #[.int .i64 p.x, .int .i64 p.y, .int .i64 p.t]] w fun e w' => (betwB a b p = true ∧ e = .returned (.bool true) ∧ Below w.heap.size w w') ∨ (betwB a b p = false ∧ e = .returned (.bool false) ∧ Below w.heap.size w w') :=
  (l05On_any a b p w).mono fun e w' ⟨he, hw⟩ => by
    cases h : betwB a b p
    · rw [h] at he
      exact .inr ⟨rfl, he, hw⟩
    · rw [h] at he
      exact .inl ⟨rfl, he, hw⟩

end Go.Proofs.Ytcglcfjonicjgaa
