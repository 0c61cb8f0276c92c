/-
  The statement of FnExactDecodeInk, as a tied card: for every readable argument the law returns true and leaves what it was given as it was.
  Conditions: the listed variables of Go's library hold what the card ties to the program's text; none beyond the statement's own.
-/
import Derived.Test.YtinlhigpmchiaaaGreatDoorDecodeInkLaw
import Derived.Test.YtinlhigpmchiaaaGreatDoorBaseC
namespace Go.Proofs.YtinlhigpmchiaaaGreatDoor
open Go.ChangeShapes Go.WideShapes Go.ChangeAt Go.RowKit Go.Deep Go.Joins
set_option linter.unusedVariables false
set_option maxRecDepth 20000

set_option maxRecDepth 100000 in
theorem fnExactDecodeInk_lifted (os : Os) (started : os.Started) (H : Type) (enc : TypeId × Value → H) :
    ReturnsInHanded {} Tryz.checked os 3 .any (fun w args => (Rows.fnExactDecodeInkSpec.pre enc Tryz.prog Tryz.f3 [] false w args ∧ laidMetH Tryz.prog Rows.fnExactDecodeInkRow.laid w) ∧ sizedMet enc Tryz.prog Tryz.f3 (OpenSpec.ofChange Rows.fnExactDecodeInkSpec) false w args) (Rows.fnExactDecodeInkSpec.post enc Tryz.prog Tryz.f3 false true false false) := by
  have e : Tryz.f3.params = #[9] := Tryz.params3
  refine liftedC (laid := Rows.fnExactDecodeInkRow.laid) Tryz.func3 (by kernel_rfl) rfl rfl (fun H ds h => ?_) (fun t ht => ?_) (fun W => MakeChecks.laidMetH_plain _ _ _ (by kernel_rfl)) os started H enc
    (ChangeSpec.witness_shaped (enc := enc) (C := Tryz.checked) (os := os) (X := fun w _ => laidMetH Tryz.prog Rows.fnExactDecodeInkRow.laid w) false (World.laidAll Tryz.prog os Rows.fnExactDecodeInkRow.laid) #[.string ⟨#[]⟩] 8 (World.laidAll_os _ _ _)
      (World.shaped_of_ZipB (by kernel_rfl) (by kernel_rfl)) (by kernel_rfl) (by kernel_rfl) (by kernel_rfl)
      (by rw [MakeChecks.laidMetH_plain _ _ _ (by kernel_rfl)]; exact laidMet_laidAll _ (by kernel_rfl) (by kernel_rfl))) ?_
  · rw [e] at h
    match ds, h with
    | [d0], _ => rfl
  · rw [e] at ht
    simp at ht
    subst ht
    exact ⟨by kernel_rfl, of_decide_eq_true (by kernel_rfl)⟩
  · intro W base args ds ps hval hA hL hsh
    rw [e] at hA hval
    obtain ⟨v0, vs0, d0, ds0, p0, q0, h_args0, rfl, rfl, h0, r0⟩ := trodAll_cons hA
    obtain ⟨rfl, rfl, rfl⟩ := trodAll_nil r0
    obtain rfl : args = #[v0] := by cases args; simp_all
    obtain ⟨a0, rfl, rfl, rfl, w0⟩ := ChangeMaps.open_string Tryz.underlying9 (hval 0 9 v0 rfl rfl) h0
    exact law_DecodeInk a0 w0 W hL hsh

theorem fnExactDecodeInk_over : Rows.fnExactDecodeInkRow.holds Tryz.pinned (OpenSpec.ofChange Rows.fnExactDecodeInkSpec) :=
  OpenClaim.holds_of_wide 3 Tryz.f3 rfl rfl rfl rfl rfl rfl rfl ⟨rfl, rfl, rfl, rfl, rfl⟩ rfl rfl rfl rfl rfl (by kernel_rfl) Tryz.func3 (by kernel_rfl)
    (of_decide_eq_true (by kernel_rfl)) (by unfold Func.isWrapper; first | (rw [if_pos (by decide +kernel)]; kernel_rfl) | (rw [if_neg (by decide +kernel)]; exact ⟨rfl, rfl⟩))
    (fun os started H enc _ => fnExactDecodeInk_lifted os started H enc)

theorem fnExactDecodeInk_proved : Rows.FnExactDecodeInkCardSaid :=
  Claim7.holds_tied_plain_at .later [] [.data, .pinned] true (true, "0170f7571f0e2661144e22b5710e265441b9bab89a3e28b0617bb52751c19691") false fnExactDecodeInk_over (fun _ h => by cases h) (by kernel_rfl) (fun _ h => by cases h) fnExactDecodeInk_row_tie rfl ⟨rfl, rfl⟩ (by kernel_rfl) rfl
    (fun f fn hf hfn => by
      obtain rfl : f = 3 := Option.some.inj ((show Tryz.prog.funcNamed "loop.example/g00918/laws.FnExactDecodeInk" = some 3 by kernel_rfl).symm.trans hf) |>.symm
      obtain rfl : fn = Tryz.f3 := (Option.some.inj (Tryz.func3.symm.trans hfn)).symm
      exact ⟨by kernel_rfl, fun j t ht => by
        rw [Tryz.params3] at ht
        have hm : t ∈ [9] := by have := Array.mem_of_getElem? ht; simpa using this
        have hall : ([9].all fun u => !Tryz.prog.wantsStandIn u) = true := by kernel_rfl
        exact (show Tryz.prog.wantsStandIn t = false by simpa using List.all_eq_true.1 hall t hm)⟩)
    (by kernel_rfl)
#print axioms fnExactDecodeInk_proved
end Go.Proofs.YtinlhigpmchiaaaGreatDoor
