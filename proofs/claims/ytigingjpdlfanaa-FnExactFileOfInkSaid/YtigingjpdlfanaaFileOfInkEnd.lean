/-
  The statement of FnExactFileOfInk: for every readable argument the law returns true and leaves what it was given as it was.
  Conditions: none beyond the statement's own.
-/
import Derived.Test.YtigingjpdlfanaaFileOfInkLaw
namespace Go.Proofs.Ytigingjpdlfanaa
open Go.ChangeShapes Go.WideShapes Go.ChangeAt Go.RowKit Go.Deep Go.Joins
set_option linter.unusedVariables false
set_option maxRecDepth 20000

set_option maxRecDepth 100000 in
theorem fnExactFileOfInk_lifted (os : Os) (started : os.Started) (H : Type) (enc : TypeId × Value → H) :
    ReturnsInHanded {} Try.checked os 3 .any (Rows.fnExactFileOfInkSpec.pre6 enc Try.prog Try.f3 [] false) (Rows.fnExactFileOfInkSpec.post enc Try.prog Try.f3 false true false false) := by
  have e : Try.f3.params = #[24] := Try.params3
  refine lifted Try.func3 (by kernel_rfl) rfl rfl (fun H ds h => ?_) (fun t ht => ?_) os started H enc
    (ChangeSpec.witness6 (enc := enc) (C := Try.checked) false ⟨#[], #[.agg #[.slice none 0 0]], []⟩ 8 (by kernel_rfl) (by kernel_rfl) (by kernel_rfl) (by kernel_rfl)) ?_
  · rw [e] at h
    match ds, h with
    | [d0], _ => rfl
  · rw [e] at ht
    simp at ht
    subst ht
    exact ⟨by kernel_rfl, of_decide_eq_true (by kernel_rfl)⟩
  · intro W base args ds ps hval hA
    rw [e] at hA hval
    obtain ⟨v0, vs0, d0, ds0, p0, q0, h_args0, rfl, rfl, h0, r0⟩ := trodAll_cons hA
    obtain ⟨rfl, rfl, rfl⟩ := trodAll_nil r0
    obtain rfl : args = #[v0] := by cases args; simp_all
    obtain ⟨o0, rfl, w0⟩ := open_ink (hval 0 24 v0 rfl rfl) h0
    exact law_FileOfInk o0 w0 W

theorem fnExactFileOfInk_over : Rows.fnExactFileOfInkRow.holds Try.pinned (OpenSpec.ofChange Rows.fnExactFileOfInkSpec) :=
  OpenClaim.holds_of_wide 3 Try.f3 rfl rfl rfl rfl rfl rfl rfl ⟨rfl, rfl, rfl, rfl, rfl⟩ rfl rfl rfl rfl rfl (by kernel_rfl) Try.func3 (by kernel_rfl)
    (of_decide_eq_true (by kernel_rfl)) (by unfold Func.isWrapper; first | (rw [if_pos (by decide +kernel)]; kernel_rfl) | (rw [if_neg (by decide +kernel)]; exact ⟨rfl, rfl⟩))
    (fun os started H enc _ => fnExactFileOfInk_lifted os started H enc)

theorem fnExactFileOfInk_proved : Rows.FnExactFileOfInkSaid := fnExactFileOfInk_over
#print axioms fnExactFileOfInk_proved
end Go.Proofs.Ytigingjpdlfanaa
