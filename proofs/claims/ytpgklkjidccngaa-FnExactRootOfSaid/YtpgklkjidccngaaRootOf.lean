/-
  The law of RootOf returns true: program and reference compute the same root, or refuse alike.
-/
import Derived.Test.YtpgklkjidccngaaRootI
namespace Go.Proofs.Ytpgklkjidccngaa
set_option linter.unusedSimpArgs false
set_option linter.unusedVariables false
open Go.RowKit

def rootR (n : Int) : Int × Int := if inB n 0 1000000000000000 = true then (rootI n, 0) else (0, 2)
theorem sRootOf (n : Int) (w : World) :
    Calls Try.prog 18 #[.int .i64 n] w fun e w' => e = .returned (.tuple #[.int .i64 (rootR n).1, .int .i64 (rootR n).2]) ∧ w = w' := by
  have hR : Hid (rootR n = if inB n 0 1000000000000000 = true then (rootI n, 0) else (0, 2)) := rfl
  cases h1 : inB n 0 1000000000000000
  · go_enter Try.func18, Try.ntmps18
    go_wp2_with (go_at_call 39; refine (l00In_any _ _ _ _).mono ?_; rintro e w' ⟨rfl, rfl⟩)
    go_ret2
    exact ⟨by rw [hR.out, h1]; rfl, rfl⟩
  · have b := inB_true h1
    have H := Lib.hid (l05Root_any n w b.1 b.2)
    clear b
    go_enter Try.func18, Try.ntmps18
    go_wp2_with (first | (go_at_call 39; refine (l00In_any _ _ _ _).mono ?_; rintro e w' ⟨rfl, rfl⟩) | (go_at_call 47; refine (H.out).mono ?_; rintro e w' ⟨rfl, rfl⟩))
    go_ret2
    exact ⟨by rw [hR.out, h1]; rfl, rfl⟩
theorem iRootOf (n : Int) (w : World) :
    Calls Try.prog 19 #[.int .i64 n] w fun e w' => e = .returned (.tuple #[.int .i64 (rootR n).1, .int .i64 (rootR n).2]) ∧ w = w' := by
  have hR : Hid (rootR n = if inB n 0 1000000000000000 = true then (rootI n, 0) else (0, 2)) := rfl
  cases h1 : inB n 0 1000000000000000
  · go_enter Try.func19, Try.ntmps19
    go_wp2_with (go_at_call 41; refine (within_any _ _ _ _).mono ?_; rintro e w' ⟨rfl, rfl⟩)
    go_ret2
    exact ⟨by rw [hR.out, h1]; rfl, rfl⟩
  · have b := inB_true h1
    have H := Lib.hid (rootOf_any n w b.1 b.2)
    clear b
    go_enter Try.func19, Try.ntmps19
    go_wp2_with (first | (go_at_call 41; refine (within_any _ _ _ _).mono ?_; rintro e w' ⟨rfl, rfl⟩) | (go_at_call 48; refine (H.out).mono ?_; rintro e w' ⟨rfl, rfl⟩))
    go_ret2
    exact ⟨by rw [hR.out, h1]; rfl, rfl⟩
theorem law_RootOf (n : Int) (_w1 : (Lit.int .i64 n).wf = true) (w : World) :
    Calls Try.prog 5 #[.int .i64 n] w (Yes w) := by
  clear _w1
  go_enter Try.func5, Try.ntmps5
  go_wp2_with (first | (go_at_call 18; refine (sRootOf _ _).mono ?_; rintro e w' ⟨rfl, rfl⟩) | (go_at_call 19; refine (iRootOf _ _).mono ?_; rintro e w' ⟨rfl, rfl⟩))
  go_ret
  exact ⟨rfl, by go_grown⟩
end Go.Proofs.Ytpgklkjidccngaa
