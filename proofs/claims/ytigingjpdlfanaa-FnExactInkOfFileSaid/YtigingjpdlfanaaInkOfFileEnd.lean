/-
  The statement of FnExactInkOfFile: for every readable argument the law returns true and leaves what it was given as it was.
  Conditions: none beyond the statement's own.
-/
import Derived.Test.YtigingjpdlfanaaInkOfFileLaw
namespace Go.Proofs.Ytigingjpdlfanaa
open Go.ChangeShapes Go.WideShapes Go.ChangeAt Go.RowKit Go.Deep Go.Joins
set_option linter.unusedVariables false
set_option maxRecDepth 20000

set_option maxRecDepth 100000 in
theorem fnExactInkOfFile_lifted (os : Os) (started : os.Started) (H : Type) (enc : TypeId × Value → H) :
    ReturnsInHanded {} Try.checked os 10 .any (Rows.fnExactInkOfFileSpec.pre6 enc Try.prog Try.f10 [] false) (Rows.fnExactInkOfFileSpec.post enc Try.prog Try.f10 false true false false) := by
  have e : Try.f10.params = #[46] := Try.params10
  refine lifted Try.func10 (by kernel_rfl) rfl rfl (fun H ds h => ?_) (fun t ht => ?_) os started H enc
    (ChangeSpec.witness6 (enc := enc) (C := Try.checked) false ⟨#[], #[.agg #[.slice none 0 0, .slice none 0 0, .slice none 0 0]], []⟩ 8 (by kernel_rfl) (by kernel_rfl) (by kernel_rfl) (by kernel_rfl)) ?_
  · rw [e] at h
    match ds, h with
    | [d0], _ => rfl
  · rw [e] at ht
    simp at ht
    subst ht
    exact ⟨by kernel_rfl, of_decide_eq_true (by kernel_rfl)⟩
  · intro W base args ds ps hval hA
    rw [e] at hA hval
    obtain ⟨v0, vs0, d0, ds0, p0, q0, h_args0, rfl, rfl, h0, r0⟩ := trodAll_cons hA
    obtain ⟨rfl, rfl, rfl⟩ := trodAll_nil r0
    obtain rfl : args = #[v0] := by cases args; simp_all
    obtain ⟨o0, rfl, w0⟩ := open_file (hval 0 46 v0 rfl rfl) h0
    exact law_InkOfFile o0 w0 W

theorem fnExactInkOfFile_over : Rows.fnExactInkOfFileRow.holds Try.pinned (OpenSpec.ofChange Rows.fnExactInkOfFileSpec) :=
  OpenClaim.holds_of_wide 10 Try.f10 rfl rfl rfl rfl rfl rfl rfl ⟨rfl, rfl, rfl, rfl, rfl⟩ rfl rfl rfl rfl rfl (by kernel_rfl) Try.func10 (by kernel_rfl)
    (of_decide_eq_true (by kernel_rfl)) (by unfold Func.isWrapper; first | (rw [if_pos (by decide +kernel)]; kernel_rfl) | (rw [if_neg (by decide +kernel)]; exact ⟨rfl, rfl⟩))
    (fun os started H enc _ => fnExactInkOfFile_lifted os started H enc)

theorem fnExactInkOfFile_proved : Rows.FnExactInkOfFileSaid := fnExactInkOfFile_over
#print axioms fnExactInkOfFile_proved
end Go.Proofs.Ytigingjpdlfanaa
