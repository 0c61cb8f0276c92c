/-
  The statement of FnExactValidFile: for every readable argument the law returns true and leaves what it was given as it was.
  Conditions: none beyond the statement's own.
-/
import Derived.Test.YtigingjpdlfanaaValidFileLaw
namespace Go.Proofs.Ytigingjpdlfanaa
open Go.ChangeShapes Go.WideShapes Go.ChangeAt Go.RowKit Go.Deep Go.Joins
set_option linter.unusedVariables false
set_option maxRecDepth 20000

set_option maxRecDepth 100000 in
theorem fnExactValidFile_lifted (os : Os) (started : os.Started) (H : Type) (enc : TypeId × Value → H) :
    ReturnsInHanded {} Try.checked os 5 .any (Rows.fnExactValidFileSpec.pre6 enc Try.prog Try.f5 [] false) (Rows.fnExactValidFileSpec.post enc Try.prog Try.f5 false true false false) := by
  have e : Try.f5.params = #[46] := Try.params5
  refine lifted Try.func5 (by kernel_rfl) rfl rfl (fun H ds h => ?_) (fun t ht => ?_) os started H enc
    (ChangeSpec.witness6 (enc := enc) (C := Try.checked) false ⟨#[], #[.agg #[.slice none 0 0, .slice none 0 0, .slice none 0 0]], []⟩ 8 (by kernel_rfl) (by kernel_rfl) (by kernel_rfl) (by kernel_rfl)) ?_
  · rw [e] at h
    match ds, h with
    | [d0], _ => rfl
  · rw [e] at ht
    simp at ht
    subst ht
    exact ⟨by kernel_rfl, of_decide_eq_true (by kernel_rfl)⟩
  · intro W base args ds ps hval hA
    rw [e] at hA hval
    obtain ⟨v0, vs0, d0, ds0, p0, q0, h_args0, rfl, rfl, h0, r0⟩ := trodAll_cons hA
    obtain ⟨rfl, rfl, rfl⟩ := trodAll_nil r0
    obtain rfl : args = #[v0] := by cases args; simp_all
    obtain ⟨o0, rfl, w0⟩ := open_file (hval 0 46 v0 rfl rfl) h0
    exact law_ValidFile o0 w0 W

theorem fnExactValidFile_over : Rows.fnExactValidFileRow.holds Try.pinned (OpenSpec.ofChange Rows.fnExactValidFileSpec) :=
  OpenClaim.holds_of_wide 5 Try.f5 rfl rfl rfl rfl rfl rfl rfl ⟨rfl, rfl, rfl, rfl, rfl⟩ rfl rfl rfl rfl rfl (by kernel_rfl) Try.func5 (by kernel_rfl)
    (of_decide_eq_true (by kernel_rfl)) (by unfold Func.isWrapper; first | (rw [if_pos (by decide +kernel)]; kernel_rfl) | (rw [if_neg (by decide +kernel)]; exact ⟨rfl, rfl⟩))
    (fun os started H enc _ => fnExactValidFile_lifted os started H enc)

theorem fnExactValidFile_proved : Rows.FnExactValidFileSaid := fnExactValidFile_over
#print axioms fnExactValidFile_proved
end Go.Proofs.Ytigingjpdlfanaa
