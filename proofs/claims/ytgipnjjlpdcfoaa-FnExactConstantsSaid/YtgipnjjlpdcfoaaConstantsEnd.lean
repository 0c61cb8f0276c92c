/-
  The statement of FnExactConstants: for every readable argument the law returns true and leaves what it was given as it was.
  Conditions: none beyond the statement's own.
-/
import Derived.Test.YtgipnjjlpdcfoaaConstants
namespace Go.Proofs.Ytgipnjjlpdcfoaa
open Go.ChangeShapes Go.WideShapes Go.ChangeAt Go.RowKit Go.Deep Go.Joins
set_option linter.unusedVariables false

set_option maxRecDepth 100000 in
theorem fnExactConstants_lifted (os : Os) (started : os.Started) (H : Type) (enc : TypeId × Value → H) :
    ReturnsInHanded {} Try.checked os 3 .any (Rows.fnExactConstantsSpec.pre6 enc Try.prog Try.f3 [] false) (Rows.fnExactConstantsSpec.post enc Try.prog Try.f3 false true false false) := by
  have e : Try.f3.params = #[] := Try.params3
  refine lifted Try.func3 (by kernel_rfl) rfl rfl (fun H ds h => ?_) (fun t ht => ?_) os started H enc
    (ChangeSpec.witness6 (enc := enc) (C := Try.checked) false ⟨#[], #[], []⟩ 8 (by kernel_rfl) (by kernel_rfl) (by kernel_rfl) (by kernel_rfl)) ?_
  · rw [e] at h
    match ds, h with
    | [], _ => rfl
  · rw [e] at ht
    simp at ht
  · intro W base args ds ps hval hA
    rw [e] at hA hval
    obtain ⟨rfl, rfl, rfl⟩ := trodAll_none hA
    exact law_Constants  W

theorem fnExactConstants_over : Rows.fnExactConstantsRow.holds Try.pinned (OpenSpec.ofChange Rows.fnExactConstantsSpec) :=
  OpenClaim.holds_of_wide 3 Try.f3 rfl rfl rfl rfl rfl rfl rfl ⟨rfl, rfl, rfl, rfl, rfl⟩ rfl rfl rfl rfl rfl (by kernel_rfl) Try.func3 (by kernel_rfl)
    (of_decide_eq_true (by kernel_rfl)) (by unfold Func.isWrapper; first | (rw [if_pos (by decide +kernel)]; kernel_rfl) | (rw [if_neg (by decide +kernel)]; exact ⟨rfl, rfl⟩))
    (fun os started H enc _ => fnExactConstants_lifted os started H enc)

theorem fnExactConstants_proved : Rows.FnExactConstantsSaid := fnExactConstants_over
#print axioms fnExactConstants_proved
end Go.Proofs.Ytgipnjjlpdcfoaa
