/-
  The statement of FnExactSegmentsMeet: for every readable argument the law returns true and leaves what it was given as it was.
  Conditions: none beyond the statement's own.
-/
import Derived.Test.YtpgklkjidccngaaSegmentsMeet
namespace Go.Proofs.Ytpgklkjidccngaa
open Go.ChangeShapes Go.WideShapes Go.ChangeAt Go.RowKit Go.Deep Go.Joins
set_option linter.unusedVariables false

set_option maxRecDepth 100000 in
theorem fnExactSegmentsMeet_lifted (os : Os) (started : os.Started) (H : Type) (enc : TypeId × Value → H) :
    ReturnsInHanded {} Try.checked os 10 .any (Rows.fnExactSegmentsMeetSpec.pre6 enc Try.prog Try.f10 [] false) (Rows.fnExactSegmentsMeetSpec.post enc Try.prog Try.f10 false true false false) := by
  have e : Try.f10.params = #[26, 26, 26, 26] := Try.params10
  refine lifted Try.func10 (by kernel_rfl) rfl rfl (fun H ds h => ?_) (fun t ht => ?_) os started H enc
    (ChangeSpec.witness6 (enc := enc) (C := Try.checked) false ⟨#[], #[.agg #[.int .i64 0, .int .i64 0, .int .i64 0], .agg #[.int .i64 0, .int .i64 0, .int .i64 0], .agg #[.int .i64 0, .int .i64 0, .int .i64 0], .agg #[.int .i64 0, .int .i64 0, .int .i64 0]], []⟩ 8 (by kernel_rfl) (by kernel_rfl) (by kernel_rfl) (by kernel_rfl)) ?_
  · rw [e] at h
    match ds, h with
    | [d0, d1, d2, d3], _ => rfl
  · rw [e] at ht
    simp at ht
    rcases ht with rfl <;> exact ⟨by kernel_rfl, of_decide_eq_true (by kernel_rfl)⟩
  · intro W base args ds ps hval hA
    rw [e] at hA hval
    obtain ⟨v0, vs0, d0, ds0, p0, q0, h_args0, rfl, rfl, h0, r0⟩ := trodAll_cons hA
    obtain ⟨v1, vs1, d1, ds1, p1, q1, h_args1, rfl, rfl, h1, r1⟩ := trodAll_cons r0
    obtain ⟨v2, vs2, d2, ds2, p2, q2, h_args2, rfl, rfl, h2, r2⟩ := trodAll_cons r1
    obtain ⟨v3, vs3, d3, ds3, p3, q3, h_args3, rfl, rfl, h3, r3⟩ := trodAll_cons r2
    obtain ⟨rfl, rfl, rfl⟩ := trodAll_nil r3
    obtain rfl : args = #[v0, v1, v2, v3] := by cases args; simp_all
    obtain ⟨o0, rfl, w0⟩ := open_point (hval 0 26 v0 rfl rfl) h0
    obtain ⟨o1, rfl, w1⟩ := open_point (hval 1 26 v1 rfl rfl) h1
    obtain ⟨o2, rfl, w2⟩ := open_point (hval 2 26 v2 rfl rfl) h2
    obtain ⟨o3, rfl, w3⟩ := open_point (hval 3 26 v3 rfl rfl) h3
    exact law_SegmentsMeet o0 w0 o1 w1 o2 w2 o3 w3 W

theorem fnExactSegmentsMeet_over : Rows.fnExactSegmentsMeetRow.holds Try.pinned (OpenSpec.ofChange Rows.fnExactSegmentsMeetSpec) :=
  OpenClaim.holds_of_wide 10 Try.f10 rfl rfl rfl rfl rfl rfl rfl ⟨rfl, rfl, rfl, rfl, rfl⟩ rfl rfl rfl rfl rfl (by kernel_rfl) Try.func10 (by kernel_rfl)
    (of_decide_eq_true (by kernel_rfl)) (by unfold Func.isWrapper; first | (rw [if_pos (by decide +kernel)]; kernel_rfl) | (rw [if_neg (by decide +kernel)]; exact ⟨rfl, rfl⟩))
    (fun os started H enc _ => fnExactSegmentsMeet_lifted os started H enc)

theorem fnExactSegmentsMeet_proved : Rows.FnExactSegmentsMeetSaid := fnExactSegmentsMeet_over
#print axioms fnExactSegmentsMeet_proved
end Go.Proofs.Ytpgklkjidccngaa
