/-
  The law of JoinBoxes returns true: program and reference join alike, or refuse alike.
-/
import Derived.Test.YtpgklkjidccngaaJoin
namespace Go.Proofs.Ytpgklkjidccngaa
set_option linter.unusedSimpArgs false
set_option linter.unusedVariables false
open Go.RowKit

def joinR (a b : Bx) : Bx × Int := if (bxB a && bxB b) = true then (joinB a b, 0) else (⟨0, 0, 0, 0⟩, 1)

set_option maxHeartbeats 2000000 in
theorem sJoinBoxes (a b : Bx) (w : World) :
    Calls Try.prog 22 #[.agg #[.int .i64 a.x1, .int .i64 a.y1, .int .i64 a.x2, .int .i64 a.y2], .agg #[.int .i64 b.x1, .int .i64 b.y1, .int .i64 b.x2, .int .i64 b.y2]] w fun e w' => e = .returned (.tuple #[.agg #[.int .i64 (joinR a b).1.x1, .int .i64 (joinR a b).1.y1, .int .i64 (joinR a b).1.x2, .int .i64 (joinR a b).1.y2], .int .i64 (joinR a b).2]) ∧ Below w.heap.size w w' := by
  cases h1 : bxB a <;> cases h2 : bxB b
  all_goals have hR : Hid (joinR a b = if (bxB a && bxB b) = true then (joinB a b, 0) else (⟨0, 0, 0, 0⟩, 1)) := rfl
  all_goals go_enter Try.func22, Try.ntmps22
  all_goals go_wp2_with (first | (go_at_call 52; refine (l02Bx_any ⟨_, _, _, _⟩ _).mono ?_; rintro e w' ⟨rfl, hb⟩; have HB : Below w.heap.size w w' := Below.next (by go_grown) hb; have hz := HB.size; obtain ⟨hc, hf⟩ := bcell hb; have hz2 := hb.size; (try simp only [World.size_alloc] at hz2); (try have hy0 : w.heap.size < w'.heap.size := by omega); (try have hy1 : w.heap.size + 1 < w'.heap.size := by omega); (try have hy2 : w.heap.size + 1 + 1 < w'.heap.size := by omega); clear hb) | (go_at_call 53; refine (l02Join_any ⟨_, _, _, _⟩ ⟨_, _, _, _⟩ _).mono ?_; rintro e w' ⟨rfl, hb⟩; have HB : Below w.heap.size w w' := Below.next (by go_grown) hb; have hz := HB.size; obtain ⟨hc, hf⟩ := bcell hb; have hz2 := hb.size; (try simp only [World.size_alloc] at hz2); (try have hy0 : w.heap.size < w'.heap.size := by omega); (try have hy1 : w.heap.size + 1 < w'.heap.size := by omega); (try have hy2 : w.heap.size + 1 + 1 < w'.heap.size := by omega); clear hb))
  all_goals refine bodyPost_ret (by simp [results, Try.results22, go_sem, *]; try rfl) rfl ?_
  all_goals exact ⟨by rw [hR.out, h1, h2]; rfl, by go_grown⟩

set_option maxHeartbeats 2000000 in
theorem iJoinBoxes (a b : Bx) (w : World) :
    Calls Try.prog 24 #[.agg #[.int .i64 a.x1, .int .i64 a.y1, .int .i64 a.x2, .int .i64 a.y2], .agg #[.int .i64 b.x1, .int .i64 b.y1, .int .i64 b.x2, .int .i64 b.y2]] w fun e w' => e = .returned (.tuple #[.agg #[.int .i64 (joinR a b).1.x1, .int .i64 (joinR a b).1.y1, .int .i64 (joinR a b).1.x2, .int .i64 (joinR a b).1.y2], .int .i64 (joinR a b).2]) ∧ Below w.heap.size w w' := by
  cases h1 : bxB a <;> cases h2 : bxB b
  all_goals have hR : Hid (joinR a b = if (bxB a && bxB b) = true then (joinB a b, 0) else (⟨0, 0, 0, 0⟩, 1)) := rfl
  all_goals go_enter Try.func24, Try.ntmps24
  all_goals go_wp2_with (first | (go_at_call 54; refine (iValidBx ⟨_, _, _, _⟩ _).mono ?_; rintro e w' ⟨rfl, hb⟩; have HB : Below w.heap.size w w' := Below.next (by go_grown) hb; have hz := HB.size; obtain ⟨hc, hf⟩ := bcell hb; have hz2 := hb.size; (try simp only [World.size_alloc] at hz2); (try have hy0 : w.heap.size < w'.heap.size := by omega); (try have hy1 : w.heap.size + 1 < w'.heap.size := by omega); (try have hy2 : w.heap.size + 1 + 1 < w'.heap.size := by omega); clear hb) | (go_at_call 55; refine (joinBoxes_any ⟨_, _, _, _⟩ ⟨_, _, _, _⟩ _).mono ?_; rintro e w' ⟨rfl, hb⟩; have HB : Below w.heap.size w w' := Below.next (by go_grown) hb; have hz := HB.size; obtain ⟨hc, hf⟩ := bcell hb; have hz2 := hb.size; (try simp only [World.size_alloc] at hz2); (try have hy0 : w.heap.size < w'.heap.size := by omega); (try have hy1 : w.heap.size + 1 < w'.heap.size := by omega); (try have hy2 : w.heap.size + 1 + 1 < w'.heap.size := by omega); clear hb))
  all_goals refine bodyPost_ret (by simp [results, Try.results24, go_sem, *]; try rfl) rfl ?_
  all_goals exact ⟨by rw [hR.out, h1, h2]; rfl, by go_grown⟩

theorem eqBox_same (b : Bx) (w : World) :
    Calls Try.prog 25 #[.agg #[.int .i64 b.x1, .int .i64 b.y1, .int .i64 b.x2, .int .i64 b.y2], .agg #[.int .i64 b.x1, .int .i64 b.y1, .int .i64 b.x2, .int .i64 b.y2]] w fun e w' => e = .returned (.bool true) ∧ Below w.heap.size w w' := by
  go_enter Try.func25, Try.ntmps25
  go_wp2
  go_ret
  exact ⟨rfl, by go_grown⟩

set_option maxHeartbeats 4000000 in
theorem law_JoinBoxes (a : Bx) (_wa : True) (b : Bx) (_wb : True) (w : World) :
    Calls Try.prog 7 #[.agg #[.int .i64 a.x1, .int .i64 a.y1, .int .i64 a.x2, .int .i64 a.y2], .agg #[.int .i64 b.x1, .int .i64 b.y1, .int .i64 b.x2, .int .i64 b.y2]] w (Yes w) := by
  clear _wa _wb
  go_enter Try.func7, Try.ntmps7
  go_upto_region 1 with fail
  go_cut [5, 6] (fun p c wx => ∃ g : Nat, p = .pointer (some ⟨g, 0, none⟩) ∧ c = .int .i64 (joinR a b).2 ∧ w.heap.size + 2 ≤ g ∧ g < wx.heap.size ∧ wx.cell? ⟨g, 0, none⟩ = some (.int .i64 (joinR a b).1.x1) ∧ wx.cell? ⟨g, 1, none⟩ = some (.int .i64 (joinR a b).1.y1) ∧
    wx.cell? ⟨g, 2, none⟩ = some (.int .i64 (joinR a b).1.x2) ∧ wx.cell? ⟨g, 3, none⟩ = some (.int .i64 (joinR a b).1.y2) ∧ Below ((w.alloc (.cells #[.int .i64 a.x1, .int .i64 a.y1, .int .i64 a.x2, .int .i64 a.y2] 37)).alloc (.cells #[.int .i64 b.x1, .int .i64 b.y1, .int .i64 b.x2, .int .i64 b.y2] 37)).heap.size ((w.alloc (.cells #[.int .i64 a.x1, .int .i64 a.y1, .int .i64 a.x2, .int .i64 a.y2] 37)).alloc (.cells #[.int .i64 b.x1, .int .i64 b.y1, .int .i64 b.x2, .int .i64 b.y2] 37)) wx)
  case first =>
    go_region_held3 (fun w' => (∀ kb ko, kb < ((w.alloc (.cells #[.int .i64 a.x1, .int .i64 a.y1, .int .i64 a.x2, .int .i64 a.y2] 37)).alloc (.cells #[.int .i64 b.x1, .int .i64 b.y1, .int .i64 b.x2, .int .i64 b.y2] 37)).heap.size → w'.cell? ⟨kb, ko, none⟩ = ((w.alloc (.cells #[.int .i64 a.x1, .int .i64 a.y1, .int .i64 a.x2, .int .i64 a.y2] 37)).alloc (.cells #[.int .i64 b.x1, .int .i64 b.y1, .int .i64 b.x2, .int .i64 b.y2] 37)).cell? ⟨kb, ko, none⟩) ∧ ((w.alloc (.cells #[.int .i64 a.x1, .int .i64 a.y1, .int .i64 a.x2, .int .i64 a.y2] 37)).alloc (.cells #[.int .i64 b.x1, .int .i64 b.y1, .int .i64 b.x2, .int .i64 b.y2] 37)).heap.size ≤ w'.heap.size ∧ Below ((w.alloc (.cells #[.int .i64 a.x1, .int .i64 a.y1, .int .i64 a.x2, .int .i64 a.y2] 37)).alloc (.cells #[.int .i64 b.x1, .int .i64 b.y1, .int .i64 b.x2, .int .i64 b.y2] 37)).heap.size ((w.alloc (.cells #[.int .i64 a.x1, .int .i64 a.y1, .int .i64 a.x2, .int .i64 a.y2] 37)).alloc (.cells #[.int .i64 b.x1, .int .i64 b.y1, .int .i64 b.x2, .int .i64 b.y2] 37)) w') (first | exact SB.mk hkB | exact SB.mk ((Below.refl _ _).drew) | (go_split_ands; refine SB.mk (Below.drew ?_); assumption) | (refine SB.mk ?_; go_grown; done) | (go_split_ands; refine SB.mk ?_; go_grown; done)) (first | (go_at_call 23; refine (toBx_any ⟨_, _, _, _⟩ _).mono ?_; rintro e w' ⟨rfl, hb⟩; obtain ⟨_, hks, hkB⟩ := SB.next (by assumption) hb; obtain ⟨hkc, hkf⟩ := bcell hb; have hkz := hb.size; (try simp only [World.size_alloc, World.size_drew] at hkz); (first | (have hkt := Nat.lt_of_succ_le hkz) | (have hkt := Nat.lt_of_lt_of_le (by assumption) hkz) | skip); clear hb) | (go_at_call 22; refine (sJoinBoxes a b _).mono ?_; rintro e w' ⟨rfl, hb⟩; obtain ⟨_, hks, hkB⟩ := SB.next (by assumption) hb; obtain ⟨hkc, hkf⟩ := bcell hb; have hkz := hb.size; (try simp only [World.size_alloc, World.size_drew] at hkz); (first | (have hkt := Nat.lt_of_succ_le hkz) | (have hkt := Nat.lt_of_lt_of_le (by assumption) hkz) | skip); clear hb))
    all_goals
      go_split_ands
      go_wp2_with fail
      go_meet
      refine ⟨_, rfl, rfl, ?_, ?_, by go_simp, by go_simp, by go_simp, by go_simp, ?_⟩
      · first | omega | (simp at *; done) | (simp at *; omega)
      · first | omega | (simp at *; done) | (simp at *; omega)
      · go_grown
  case rest =>
    obtain ⟨g, rfl, rfl, hg1, hg2, e0, e1, e2, e3, hB⟩ := hcut
    obtain ⟨hc, hf⟩ := bcell hB
    have HB0 : Below w.heap.size w wc := Below.next (by go_grown) hB
    have hz := hB.size
    simp only [World.size_alloc] at hz
    have hy0 : w.heap.size < wc.heap.size := by omega
    have hy1 : w.heap.size + 1 < wc.heap.size := by omega
    go_upto_region 2 with fail
    go_cut [7, 8] (fun p c wx => ∃ g : Nat, p = .pointer (some ⟨g, 0, none⟩) ∧ c = .int .i64 (joinR a b).2 ∧ wx.cell? ⟨g, 0, none⟩ = some (.int .i64 (joinR a b).1.x1) ∧ wx.cell? ⟨g, 1, none⟩ = some (.int .i64 (joinR a b).1.y1) ∧
      wx.cell? ⟨g, 2, none⟩ = some (.int .i64 (joinR a b).1.x2) ∧ wx.cell? ⟨g, 3, none⟩ = some (.int .i64 (joinR a b).1.y2) ∧ Below wc.heap.size wc wx)
    case first =>
      go_region_held3 (fun w' => (∀ kb ko, kb < wc.heap.size → w'.cell? ⟨kb, ko, none⟩ = wc.cell? ⟨kb, ko, none⟩) ∧ wc.heap.size ≤ w'.heap.size ∧ Below wc.heap.size wc w') (first | exact SB.mk hkB | exact SB.mk ((Below.refl _ _).drew) | (go_split_ands; refine SB.mk (Below.drew ?_); assumption) | (refine SB.mk ?_; go_grown; done) | (go_split_ands; refine SB.mk ?_; go_grown; done)) (first | (go_at_call 23; refine (toBx_any ⟨_, _, _, _⟩ _).mono ?_; rintro e w' ⟨rfl, hb⟩; obtain ⟨_, hks, hkB⟩ := SB.next (by assumption) hb; obtain ⟨hkc, hkf⟩ := bcell hb; have hkz := hb.size; (try simp only [World.size_alloc, World.size_drew] at hkz); (first | (have hkt := Nat.lt_of_succ_le hkz) | (have hkt := Nat.lt_of_lt_of_le (by assumption) hkz) | skip); clear hb) | (go_at_call 24; refine (iJoinBoxes a b _).mono ?_; rintro e w' ⟨rfl, hb⟩; obtain ⟨_, hks, hkB⟩ := SB.next (by assumption) hb; obtain ⟨hkc, hkf⟩ := bcell hb; have hkz := hb.size; (try simp only [World.size_alloc, World.size_drew] at hkz); (first | (have hkt := Nat.lt_of_succ_le hkz) | (have hkt := Nat.lt_of_lt_of_le (by assumption) hkz) | skip); clear hb))
      all_goals
        go_split_ands
        go_wp2_with fail
        go_meet
        refine ⟨_, rfl, rfl, by go_simp, by go_simp, by go_simp, by go_simp, ?_⟩
        go_grown
    case rest =>
      obtain ⟨g', rfl, rfl, d0, d1, d2, d3, hB'⟩ := hcut
      obtain ⟨hc', hf'⟩ := bcell hB'
      have HB : Below w.heap.size w wc := Below.next HB0 hB'
      go_wp2_with fail
      refine (eqBox_same (joinR a b).1 _).mono ?_
      rintro e w5 ⟨rfl, hb⟩
      go_wp2_with fail
      go_ret
      exact ⟨rfl, Below.next HB hb⟩
end Go.Proofs.Ytpgklkjidccngaa
