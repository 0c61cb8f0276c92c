/-
  The law of UnpackBits returns true: program and reference write the same bits, or refuse alike.
-/
import Derived.Test.YtpgklkjidccngaaUnpack
namespace Go.Proofs.Ytpgklkjidccngaa
set_option linter.unusedSimpArgs false
set_option linter.unusedVariables false
open Go.RowKit

def ubS (s : ByteArray) : ByteArray := if s.size ≤ 12500 then ⟨(unpackL s.data.toList).toArray⟩ else ⟨#[]⟩
def ubC (s : ByteArray) : Int := if s.size ≤ 12500 then 0 else 2

theorem sUnpackBits (s : ByteArray) (w : World) (hs : s.size ≤ 1048576) :
    Calls Try.prog 20 #[.string s] w fun e w' => e = .returned (.tuple #[.string (ubS s), .int .i64 (ubC s)]) ∧ Below w.heap.size w w' := by
  by_cases h : s.size ≤ 12500
  · have E1 : Hid (ubS s = ⟨(unpackL s.data.toList).toArray⟩ ∧ ubC s = 0) := ⟨by simp [ubS, h], by simp [ubC, h]⟩
    go_enter Try.func20, Try.ntmps20
    go_wp2_with (go_at_call 49; refine (l04Unpack_any s _ h).mono ?_; rintro e w' ⟨rfl, hB⟩)
    go_ret2
    exact ⟨by rw [E1.out.1, E1.out.2]; rfl, hB⟩
  · have E1 : Hid (ubS s = ⟨#[]⟩ ∧ ubC s = 2) := ⟨by simp [ubS, h], by simp [ubC, h]⟩
    go_enter Try.func20, Try.ntmps20
    go_wp2_with fail
    go_ret2
    exact ⟨by rw [E1.out.1, E1.out.2]; rfl, Below.refl _ _⟩

theorem iUnpackBits (s : ByteArray) (w : World) (hs : s.size ≤ 1048576) :
    Calls Try.prog 21 #[.string s] w fun e w' => e = .returned (.tuple #[.string (ubS s), .int .i64 (ubC s)]) ∧ Below w.heap.size w w' := by
  by_cases h : s.size ≤ 12500
  · have E1 : ubS s = ⟨(unpackL s.data.toList).toArray⟩ ∧ ubC s = 0 := ⟨by simp [ubS, h], by simp [ubC, h]⟩
    rw [E1.1, E1.2]
    exact iUnpackBits_yes s w h
  · have E1 : Hid (ubS s = ⟨#[]⟩ ∧ ubC s = 2) := ⟨by simp [ubS, h], by simp [ubC, h]⟩
    go_enter Try.func21, Try.ntmps21
    go_wp2_with fail
    go_ret2
    exact ⟨by rw [E1.out.1, E1.out.2]; rfl, Below.refl _ _⟩

theorem law_UnpackBits (s : ByteArray) (_ws : s.size ≤ maxLen) (w : World) :
    Calls Try.prog 6 #[.string s] w (Yes w) := by
  unfold maxLen at _ws
  by_cases h : s.size ≤ 1048576
  · go_enter Try.func6, Try.ntmps6
    go_wp2_with (first | (go_at_call 20; (with_reducible refine (sUnpackBits _ _ h).mono ?_); rintro e w' ⟨rfl, hb⟩; have HB : Below w.heap.size w w' := Below.next (by go_grown) hb; have hz := HB.size; obtain ⟨hc, hf⟩ := bcell hb; have hz2 := hb.size; (try simp only [World.size_alloc] at hz2); (try have hy0 : w.heap.size < w'.heap.size := by omega); clear hb) | (go_at_call 21; (with_reducible refine (iUnpackBits _ _ h).mono ?_); rintro e w' ⟨rfl, hb⟩; have HB : Below w.heap.size w w' := Below.next (by go_grown) hb; have hz := HB.size; obtain ⟨hc, hf⟩ := bcell hb; have hz2 := hb.size; (try simp only [World.size_alloc] at hz2); (try have hy0 : w.heap.size < w'.heap.size := by omega); clear hb))
    go_ret
    exact ⟨rfl, HB⟩
  · go_enter Try.func6, Try.ntmps6
    go_wp2_with fail
    go_ret
    exact ⟨rfl, Below.refl _ _⟩
end Go.Proofs.Ytpgklkjidccngaa
