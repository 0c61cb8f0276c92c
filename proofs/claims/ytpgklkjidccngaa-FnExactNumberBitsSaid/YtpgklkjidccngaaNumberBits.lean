/-
  The law of NumberBits returns true: program and reference write the same bits, or refuse alike.
-/
import Derived.Test.YtpgklkjidccngaaBits
namespace Go.Proofs.Ytpgklkjidccngaa
set_option linter.unusedSimpArgs false
set_option linter.unusedVariables false
open Go.RowKit

def nbB (n W : Int) : Bool := inB W 1 40 && inB n 0 (2 ^ W.toNat - 1)
def nbS (n W : Int) : ByteArray := if nbB n W = true then ⟨(numBits n W.toNat).toArray⟩ else ⟨#[]⟩
def nbC (n W : Int) : Int := if nbB n W = true then 0 else 2
theorem pow40 {k : Nat} (h : k ≤ 40) : (1 : Int) ≤ 2 ^ k ∧ (2 : Int) ^ k ≤ 1099511627776 := by
  have p1 : 1 ≤ 2 ^ k := Nat.one_le_two_pow
  have p2 : 2 ^ k ≤ 1099511627776 := Nat.pow_le_pow_right (n := 2) (by omega) h
  have e : (2 : Int) ^ k = ((2 ^ k : Nat) : Int) := by simp
  rw [e]
  omega

set_option maxHeartbeats 1000000 in
theorem sNumberBits (n W : Int) (w : World) :
    Calls Try.prog 13 #[.int .i64 n, .int .i64 W] w fun e w' => e = .returned (.tuple #[.string (nbS n W), .int .i64 (nbC n W)]) ∧ Below w.heap.size w w' := by
  cases h1 : inB W 1 40
  · have e1 : nbB n W = false := by rw [nbB, h1]; rfl
    have E1 : Hid (nbS n W = ⟨#[]⟩ ∧ nbC n W = 2) := ⟨by simp [nbS, e1], by simp [nbC, e1]⟩
    clear e1
    go_enter Try.func13, Try.ntmps13
    go_wp2_with (go_at_call 39; refine (l00In_any _ _ _ _).mono ?_; rintro e w' ⟨rfl, rfl⟩)
    go_ret2
    exact ⟨by rw [E1.out.1, E1.out.2]; rfl, Below.refl _ _⟩
  · obtain ⟨b1, b2⟩ := inB_true h1
    obtain ⟨k, rfl⟩ : ∃ k : Nat, W = (k : Int) := ⟨W.toNat, by omega⟩
    have hp := pow40 (k := k) (by omega)
    cases h2 : inB n 0 (2 ^ k - 1)
    · have e1 : nbB n k = false := by rw [nbB, h1, Int.toNat_natCast, h2]; rfl
      have E1 : Hid (nbS n k = ⟨#[]⟩ ∧ nbC n k = 2) := ⟨by simp [nbS, e1], by simp [nbC, e1]⟩
      clear e1
      go_enter Try.func13, Try.ntmps13
      go_wp2_with (go_at_call 39; refine (l00In_any _ _ _ _).mono ?_; rintro e w' ⟨rfl, rfl⟩)
      go_ret2
      exact ⟨by rw [E1.out.1, E1.out.2]; rfl, Below.refl _ _⟩
    · have e1 : nbB n k = true := by rw [nbB, h1, Int.toNat_natCast, h2]; rfl
      have E1 : Hid (nbS n k = ⟨(numBits n k).toArray⟩ ∧ nbC n k = 0) := ⟨by simp [nbS, e1], by simp [nbC, e1]⟩
      have b3 := inB_true h2
      have H := Lib.hid (l04Number_any n k w b3.1 (by omega) (by omega))
      clear e1 b3
      go_enter Try.func13, Try.ntmps13
      go_wp2_with (first | (go_at_call 39; refine (l00In_any _ _ _ _).mono ?_; rintro e w' ⟨rfl, rfl⟩) | (go_at_call 40; refine (H.out).mono ?_; rintro e w' ⟨rfl, hB⟩))
      go_ret2
      exact ⟨by rw [E1.out.1, E1.out.2]; rfl, hB⟩

set_option maxHeartbeats 1000000 in
theorem iNumberBits (n W : Int) (w : World) :
    Calls Try.prog 14 #[.int .i64 n, .int .i64 W] w fun e w' => e = .returned (.tuple #[.string (nbS n W), .int .i64 (nbC n W)]) ∧ Below w.heap.size w w' := by
  cases h1 : inB W 1 40
  · have e1 : nbB n W = false := by rw [nbB, h1]; rfl
    have E1 : Hid (nbS n W = ⟨#[]⟩ ∧ nbC n W = 2) := ⟨by simp [nbS, e1], by simp [nbC, e1]⟩
    clear e1
    go_enter Try.func14, Try.ntmps14
    go_wp2_with (go_at_call 41; refine (within_any _ _ _ _).mono ?_; rintro e w' ⟨rfl, rfl⟩)
    go_ret2
    exact ⟨by rw [E1.out.1, E1.out.2]; rfl, Below.refl _ _⟩
  · obtain ⟨b1, b2⟩ := inB_true h1
    obtain ⟨k, rfl⟩ : ∃ k : Nat, W = (k : Int) := ⟨W.toNat, by omega⟩
    have hp := pow40 (k := k) (by omega)
    cases h2 : inB n 0 (2 ^ k - 1)
    · have e1 : nbB n k = false := by rw [nbB, h1, Int.toNat_natCast, h2]; rfl
      have E1 : Hid (nbS n k = ⟨#[]⟩ ∧ nbC n k = 2) := ⟨by simp [nbS, e1], by simp [nbC, e1]⟩
      clear e1
      go_enter Try.func14, Try.ntmps14
      go_wp2_with (go_at_call 41; refine (within_any _ _ _ _).mono ?_; rintro e w' ⟨rfl, rfl⟩)
      go_ret2
      exact ⟨by rw [E1.out.1, E1.out.2]; rfl, Below.refl _ _⟩
    · have e1 : nbB n k = true := by rw [nbB, h1, Int.toNat_natCast, h2]; rfl
      have E1 : Hid (nbS n k = ⟨(numBits n k).toArray⟩ ∧ nbC n k = 0) := ⟨by simp [nbS, e1], by simp [nbC, e1]⟩
      have b3 := inB_true h2
      have H := Lib.hid (numberBits_any n k w b3.1 (by omega) (by omega))
      clear e1 b3
      go_enter Try.func14, Try.ntmps14
      go_wp2_with (first | (go_at_call 41; refine (within_any _ _ _ _).mono ?_; rintro e w' ⟨rfl, rfl⟩) | (go_at_call 42; refine (H.out).mono ?_; rintro e w' ⟨rfl, hB⟩))
      go_ret2
      exact ⟨by rw [E1.out.1, E1.out.2]; rfl, hB⟩

theorem law_NumberBits (n : Int) (_w1 : (Lit.int .i64 n).wf = true) (W : Int) (_w2 : (Lit.int .i64 W).wf = true) (w : World) :
    Calls Try.prog 3 #[.int .i64 n, .int .i64 W] w (Yes w) := by
  clear _w1 _w2
  go_enter Try.func3, Try.ntmps3
  go_wp2_with (first | (go_at_call 13; (with_reducible refine (sNumberBits _ _ _).mono ?_); rintro e w' ⟨rfl, hb⟩; have HB : Below w.heap.size w w' := Below.next (by go_grown) hb; have hz := HB.size; obtain ⟨hc, hf⟩ := bcell hb; have hz2 := hb.size; (try simp only [World.size_alloc] at hz2); (try have hy0 : w.heap.size < w'.heap.size := by omega); clear hb) | (go_at_call 14; (with_reducible refine (iNumberBits _ _ _).mono ?_); rintro e w' ⟨rfl, hb⟩; have HB : Below w.heap.size w w' := Below.next (by go_grown) hb; have hz := HB.size; obtain ⟨hc, hf⟩ := bcell hb; have hz2 := hb.size; (try simp only [World.size_alloc] at hz2); (try have hy0 : w.heap.size < w'.heap.size := by omega); clear hb))
  go_ret
  exact ⟨rfl, HB⟩
end Go.Proofs.Ytpgklkjidccngaa
