/-
  The statement of FnExactFileText, as a tied card: for every readable argument the law returns true and leaves what it was given as it was.
  Conditions: the listed variables of Go's library hold what the card ties to the program's text; none beyond the statement's own.
-/
import Derived.Test.YtmdmjnhebbhjbaaDoorFileTextLaw
import Derived.Test.YtmdmjnhebbhjbaaDoorBaseC
namespace Go.Proofs.YtmdmjnhebbhjbaaDoor
open Go.ChangeShapes Go.WideShapes Go.ChangeAt Go.RowKit Go.Deep Go.Joins
set_option linter.unusedVariables false
set_option maxRecDepth 20000

set_option maxRecDepth 100000 in
theorem fnExactFileText_lifted (os : Os) (started : os.Started) (H : Type) (enc : TypeId × Value → H) :
    ReturnsInHanded {} Tryd.checked os 3 .any (fun w args => (Rows.fnExactFileTextSpec.pre enc Tryd.prog Tryd.f3 [] false w args ∧ laidMetH Tryd.prog Rows.fnExactFileTextRow.laid w) ∧ sizedMet enc Tryd.prog Tryd.f3 (OpenSpec.ofChange Rows.fnExactFileTextSpec) false w args) (Rows.fnExactFileTextSpec.post enc Tryd.prog Tryd.f3 false true false false) := by
  have e : Tryd.f3.params = #[26] := Tryd.params3
  refine liftedC (laid := Rows.fnExactFileTextRow.laid) Tryd.func3 (by kernel_rfl) rfl rfl (fun H ds h => ?_) (fun t ht => ?_) (fun W => MakeChecks.laidMetH_plain _ _ _ (by kernel_rfl)) os started H enc
    (ChangeSpec.witness_shaped (enc := enc) (C := Tryd.checked) (os := os) (X := fun w _ => laidMetH Tryd.prog Rows.fnExactFileTextRow.laid w) false (World.laidAll Tryd.prog os Rows.fnExactFileTextRow.laid) #[.agg #[.slice none 0 0, .slice none 0 0, .slice none 0 0]] 8 (World.laidAll_os _ _ _)
      (World.shaped_of_ZipB (by kernel_rfl) (by kernel_rfl)) (by kernel_rfl) (by kernel_rfl) (by kernel_rfl)
      (by rw [MakeChecks.laidMetH_plain _ _ _ (by kernel_rfl)]; exact laidMet_laidAll _ (by kernel_rfl) (by kernel_rfl))) ?_
  · rw [e] at h
    match ds, h with
    | [d0], _ => rfl
  · rw [e] at ht
    simp at ht
    subst ht
    exact ⟨by kernel_rfl, of_decide_eq_true (by kernel_rfl)⟩
  · intro W base args ds ps hval hA hL hsh
    rw [e] at hA hval
    obtain ⟨v0, vs0, d0, ds0, p0, q0, h_args0, rfl, rfl, h0, r0⟩ := trodAll_cons hA
    obtain ⟨rfl, rfl, rfl⟩ := trodAll_nil r0
    obtain rfl : args = #[v0] := by cases args; simp_all
    obtain ⟨o0, rfl, w0⟩ := open_file (hval 0 26 v0 rfl rfl) h0
    exact law_FileText o0 w0 W hL hsh

theorem fnExactFileText_over : Rows.fnExactFileTextRow.holds Tryd.pinned (OpenSpec.ofChange Rows.fnExactFileTextSpec) :=
  OpenClaim.holds_of_wide 3 Tryd.f3 rfl rfl rfl rfl rfl rfl rfl ⟨rfl, rfl, rfl, rfl, rfl⟩ rfl rfl rfl rfl rfl (by kernel_rfl) Tryd.func3 (by kernel_rfl)
    (of_decide_eq_true (by kernel_rfl)) (by unfold Func.isWrapper; first | (rw [if_pos (by decide +kernel)]; kernel_rfl) | (rw [if_neg (by decide +kernel)]; exact ⟨rfl, rfl⟩))
    (fun os started H enc _ => fnExactFileText_lifted os started H enc)

theorem fnExactFileText_proved : Rows.FnExactFileTextCardSaid :=
  Claim7.holds_tied_plain_at .later [] [.data, .data, .data] true (true, "ab61c6394ef4d284be64b3f4d526e9fbd15a429f028e12321e5b1ad787b215b2") false fnExactFileText_over (fun _ h => by cases h) (by kernel_rfl) (fun _ h => by cases h) fnExactFileText_row_tie rfl ⟨rfl, rfl⟩ (by kernel_rfl) rfl
    (fun f fn hf hfn => by
      obtain rfl : f = 3 := Option.some.inj ((show Tryd.prog.funcNamed "loop.example/g00918/laws.FnExactFileText" = some 3 by kernel_rfl).symm.trans hf) |>.symm
      obtain rfl : fn = Tryd.f3 := (Option.some.inj (Tryd.func3.symm.trans hfn)).symm
      exact ⟨by kernel_rfl, fun j t ht => by
        rw [Tryd.params3] at ht
        have hm : t ∈ [26] := by have := Array.mem_of_getElem? ht; simpa using this
        have hall : ([26].all fun u => !Tryd.prog.wantsStandIn u) = true := by kernel_rfl
        exact (show Tryd.prog.wantsStandIn t = false by simpa using List.all_eq_true.1 hall t hm)⟩)
    (by kernel_rfl)
#print axioms fnExactFileText_proved
end Go.Proofs.YtmdmjnhebbhjbaaDoor
