/-
  The statement of FnExactAddNote: for every readable argument the law returns true and leaves what it was given as it was.
  Conditions: none beyond the statement's own.
-/
import Derived.Test.YtmdmjnhebbhjbaaAddNoteLaw
import Derived.Test.YtmdmjnhebbhjbaaOpn
namespace Go.Proofs.Ytmdmjnhebbhjbaa
open Go.ChangeShapes Go.WideShapes Go.ChangeAt Go.RowKit Go.Deep Go.Joins
set_option linter.unusedVariables false
set_option maxRecDepth 20000

set_option maxRecDepth 100000 in
theorem fnExactAddNote_lifted (os : Os) (started : os.Started) (H : Type) (enc : TypeId × Value → H) :
    ReturnsInHanded {} Try.checked os 3 .any (Rows.fnExactAddNoteSpec.pre6 enc Try.prog Try.f3 [] false) (Rows.fnExactAddNoteSpec.post enc Try.prog Try.f3 false true false false) := by
  have e : Try.f3.params = #[26, 28] := Try.params3
  refine lifted Try.func3 (by kernel_rfl) rfl rfl (fun H ds h => ?_) (fun t ht => ?_) os started H enc
    (ChangeSpec.witness6 (enc := enc) (C := Try.checked) false ⟨#[], #[.agg #[.slice none 0 0, .slice none 0 0, .slice none 0 0], .agg #[.int .i64 0, .int .i64 0, .string ⟨#[]⟩]], []⟩ 8 (by kernel_rfl) (by kernel_rfl) (by kernel_rfl) (by kernel_rfl)) ?_
  · rw [e] at h
    match ds, h with
    | [d0, d1], _ => rfl
  · rw [e] at ht
    simp at ht
    rcases ht with rfl | rfl <;> exact ⟨by kernel_rfl, of_decide_eq_true (by kernel_rfl)⟩
  · intro W base args ds ps hval hA
    rw [e] at hA hval
    obtain ⟨v0, vs0, d0, ds0, p0, q0, h_args0, rfl, rfl, h0, r0⟩ := trodAll_cons hA
    obtain ⟨v1, vs1, d1, ds1, p1, q1, h_args1, rfl, rfl, h1, r1⟩ := trodAll_cons r0
    obtain ⟨rfl, rfl, rfl⟩ := trodAll_nil r1
    obtain rfl : args = #[v0, v1] := by cases args; simp_all
    obtain ⟨o0, rfl, w0⟩ := open_file (hval 0 26 v0 rfl rfl) h0
    obtain ⟨x1, y1, s1, rfl, w1⟩ := open_note (hval 1 28 v1 rfl rfl) h1
    exact law_AddNote o0 w0 x1 y1 s1 w1 W

theorem fnExactAddNote_over : Rows.fnExactAddNoteRow.holds Try.pinned (OpenSpec.ofChange Rows.fnExactAddNoteSpec) :=
  OpenClaim.holds_of_wide 3 Try.f3 rfl rfl rfl rfl rfl rfl rfl ⟨rfl, rfl, rfl, rfl, rfl⟩ rfl rfl rfl rfl rfl (by kernel_rfl) Try.func3 (by kernel_rfl)
    (of_decide_eq_true (by kernel_rfl)) (by unfold Func.isWrapper; first | (rw [if_pos (by decide +kernel)]; kernel_rfl) | (rw [if_neg (by decide +kernel)]; exact ⟨rfl, rfl⟩))
    (fun os started H enc _ => fnExactAddNote_lifted os started H enc)

theorem fnExactAddNote_proved : Rows.FnExactAddNoteSaid := fnExactAddNote_over
#print axioms fnExactAddNote_proved
end Go.Proofs.Ytmdmjnhebbhjbaa
