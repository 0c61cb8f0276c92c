/-
  The law of RiceBits returns true: program and reference write the same code, or refuse alike.
-/
import Derived.Test.YtpgklkjidccngaaRiceS
namespace Go.Proofs.Ytpgklkjidccngaa
set_option linter.unusedSimpArgs false
set_option linter.unusedVariables false
open Go.RowKit

def rbB (n k : Int) : Bool := inB n (-1000000000) 1000000000 && inB k 0 12
def rbS (n k : Int) : ByteArray := if rbB n k = true then ⟨(riceL n k.toNat).toArray⟩ else ⟨#[]⟩
def rbC (n k : Int) : Int := if rbB n k = true then 0 else 2

theorem l04Res_any (n : Int) (w : World) : Calls Try.prog 66 #[.int .i64 n] w fun e w' => e = .returned (.bool (inB n (-1000000000) 1000000000)) ∧ w = w' := by
  go_enter Try.func66, Try.ntmps66
  go_wp2_with (go_at_call 39; refine (l00In_any _ _ _ _).mono ?_; rintro e w' ⟨rfl, rfl⟩)
  go_ret
  exact ⟨rfl, rfl⟩
theorem isResidual_any (n : Int) (w : World) : Calls Try.prog 68 #[.int .i64 n] w fun e w' => e = .returned (.bool (inB n (-1000000000) 1000000000)) ∧ w = w' := by
  go_enter Try.func68, Try.ntmps68
  go_wp2_with (go_at_call 41; refine (within_any _ _ _ _).mono ?_; rintro e w' ⟨rfl, rfl⟩)
  go_ret
  exact ⟨rfl, rfl⟩

set_option maxHeartbeats 1000000 in
theorem sRiceBits (n k : Int) (w : World) :
    Calls Try.prog 37 #[.int .i64 n, .int .i64 k] w fun e w' => e = .returned (.tuple #[.string (rbS n k), .int .i64 (rbC n k)]) ∧ Below w.heap.size w w' := by
  cases h1 : inB n (-1000000000) 1000000000
  · have e1 : rbB n k = false := by rw [rbB, h1]; rfl
    have E1 : Hid (rbS n k = ⟨#[]⟩ ∧ rbC n k = 2) := ⟨by simp [rbS, e1], by simp [rbC, e1]⟩
    clear e1
    go_enter Try.func37, Try.ntmps37
    go_wp2_with (first | (go_at_call 39; refine (l00In_any _ _ _ _).mono ?_; rintro e w' ⟨rfl, rfl⟩) | (go_at_call 66; refine (l04Res_any _ _).mono ?_; rintro e w' ⟨rfl, rfl⟩))
    go_ret2
    exact ⟨by rw [E1.out.1, E1.out.2]; rfl, Below.refl _ _⟩
  · cases h2 : inB k 0 12
    · have e1 : rbB n k = false := by rw [rbB, h1, h2]; rfl
      have E1 : Hid (rbS n k = ⟨#[]⟩ ∧ rbC n k = 2) := ⟨by simp [rbS, e1], by simp [rbC, e1]⟩
      clear e1
      go_enter Try.func37, Try.ntmps37
      go_wp2_with (first | (go_at_call 39; refine (l00In_any _ _ _ _).mono ?_; rintro e w' ⟨rfl, rfl⟩) | (go_at_call 66; refine (l04Res_any _ _).mono ?_; rintro e w' ⟨rfl, rfl⟩))
      go_ret2
      exact ⟨by rw [E1.out.1, E1.out.2]; rfl, Below.refl _ _⟩
    · have b2 := inB_true h2
      obtain ⟨j, rfl⟩ : ∃ j : Nat, k = (j : Int) := ⟨k.toNat, by omega⟩
      have e1 : rbB n j = true := by rw [rbB, h1, h2]; rfl
      have E1 : Hid (rbS n j = ⟨(riceL n j).toArray⟩ ∧ rbC n j = 0) := ⟨by simp [rbS, e1], by simp [rbC, e1]⟩
      have H := Lib.hid (l04Rice_any n j w (inB_true h1) (by omega))
      clear e1 b2
      go_enter Try.func37, Try.ntmps37
      go_wp2_with (first | (go_at_call 39; refine (l00In_any _ _ _ _).mono ?_; rintro e w' ⟨rfl, rfl⟩) | (go_at_call 66; refine (l04Res_any _ _).mono ?_; rintro e w' ⟨rfl, rfl⟩) | (go_at_call 67; refine (H.out).mono ?_; rintro e w' ⟨rfl, hB⟩))
      go_ret2
      exact ⟨by rw [E1.out.1, E1.out.2]; rfl, hB⟩

set_option maxHeartbeats 1000000 in
theorem iRiceBits (n k : Int) (w : World) :
    Calls Try.prog 38 #[.int .i64 n, .int .i64 k] w fun e w' => e = .returned (.tuple #[.string (rbS n k), .int .i64 (rbC n k)]) ∧ Below w.heap.size w w' := by
  cases h1 : inB n (-1000000000) 1000000000
  · have e1 : rbB n k = false := by rw [rbB, h1]; rfl
    have E1 : Hid (rbS n k = ⟨#[]⟩ ∧ rbC n k = 2) := ⟨by simp [rbS, e1], by simp [rbC, e1]⟩
    clear e1
    go_enter Try.func38, Try.ntmps38
    go_wp2_with (first | (go_at_call 41; refine (within_any _ _ _ _).mono ?_; rintro e w' ⟨rfl, rfl⟩) | (go_at_call 68; refine (isResidual_any _ _).mono ?_; rintro e w' ⟨rfl, rfl⟩))
    go_ret2
    exact ⟨by rw [E1.out.1, E1.out.2]; rfl, Below.refl _ _⟩
  · cases h2 : inB k 0 12
    · have e1 : rbB n k = false := by rw [rbB, h1, h2]; rfl
      have E1 : Hid (rbS n k = ⟨#[]⟩ ∧ rbC n k = 2) := ⟨by simp [rbS, e1], by simp [rbC, e1]⟩
      clear e1
      go_enter Try.func38, Try.ntmps38
      go_wp2_with (first | (go_at_call 41; refine (within_any _ _ _ _).mono ?_; rintro e w' ⟨rfl, rfl⟩) | (go_at_call 68; refine (isResidual_any _ _).mono ?_; rintro e w' ⟨rfl, rfl⟩))
      go_ret2
      exact ⟨by rw [E1.out.1, E1.out.2]; rfl, Below.refl _ _⟩
    · have b2 := inB_true h2
      obtain ⟨j, rfl⟩ : ∃ j : Nat, k = (j : Int) := ⟨k.toNat, by omega⟩
      have e1 : rbB n j = true := by rw [rbB, h1, h2]; rfl
      have E1 : Hid (rbS n j = ⟨(riceL n j).toArray⟩ ∧ rbC n j = 0) := ⟨by simp [rbS, e1], by simp [rbC, e1]⟩
      have H := Lib.hid (riceBits_any n j w (inB_true h1) (by omega))
      clear e1 b2
      go_enter Try.func38, Try.ntmps38
      go_wp2_with (first | (go_at_call 41; refine (within_any _ _ _ _).mono ?_; rintro e w' ⟨rfl, rfl⟩) | (go_at_call 68; refine (isResidual_any _ _).mono ?_; rintro e w' ⟨rfl, rfl⟩) | (go_at_call 69; refine (H.out).mono ?_; rintro e w' ⟨rfl, hB⟩))
      go_ret2
      exact ⟨by rw [E1.out.1, E1.out.2]; rfl, hB⟩

theorem law_RiceBits (n : Int) (_w1 : (Lit.int .i64 n).wf = true) (k : Int) (_w2 : (Lit.int .i64 k).wf = true) (w : World) :
    Calls Try.prog 12 #[.int .i64 n, .int .i64 k] w (Yes w) := by
  clear _w1 _w2
  go_enter Try.func12, Try.ntmps12
  go_wp2_with (first | (go_at_call 37; (with_reducible refine (sRiceBits _ _ _).mono ?_); rintro e w' ⟨rfl, hb⟩; have HB : Below w.heap.size w w' := Below.next (by go_grown) hb; have hz := HB.size; obtain ⟨hc, hf⟩ := bcell hb; have hz2 := hb.size; (try simp only [World.size_alloc] at hz2); (try have hy0 : w.heap.size < w'.heap.size := by omega); clear hb) | (go_at_call 38; (with_reducible refine (iRiceBits _ _ _).mono ?_); rintro e w' ⟨rfl, hb⟩; have HB : Below w.heap.size w w' := Below.next (by go_grown) hb; have hz := HB.size; obtain ⟨hc, hf⟩ := bcell hb; have hz2 := hb.size; (try simp only [World.size_alloc] at hz2); (try have hy0 : w.heap.size < w'.heap.size := by omega); clear hb))
  go_ret
  exact ⟨rfl, HB⟩
end Go.Proofs.Ytpgklkjidccngaa
