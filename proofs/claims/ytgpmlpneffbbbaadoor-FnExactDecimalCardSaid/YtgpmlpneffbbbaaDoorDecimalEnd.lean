/-
  The statement of FnExactDecimal, as a tied card: for every readable argument the law returns true and leaves what it was given as it was.
  Conditions: the listed variables of Go's library hold what the card ties to the program's text; none beyond the statement's own.
-/
import Derived.Test.YtgpmlpneffbbbaaDoorDecimalLaw
import Derived.Test.YtgpmlpneffbbbaaDoorBaseC
namespace Go.Proofs.YtgpmlpneffbbbaaDoor
open Go.ChangeShapes Go.WideShapes Go.ChangeAt Go.RowKit Go.Deep Go.Joins
set_option linter.unusedVariables false
set_option maxRecDepth 20000

set_option maxRecDepth 100000 in
theorem fnExactDecimal_lifted (os : Os) (started : os.Started) (H : Type) (enc : TypeId × Value → H) :
    ReturnsInHanded {} Tryd.checked os 3 .any (fun w args => (Rows.fnExactDecimalSpec.pre enc Tryd.prog Tryd.f3 [] false w args ∧ laidMetH Tryd.prog Rows.fnExactDecimalRow.laid w) ∧ sizedMet enc Tryd.prog Tryd.f3 (OpenSpec.ofChange Rows.fnExactDecimalSpec) false w args) (Rows.fnExactDecimalSpec.post enc Tryd.prog Tryd.f3 false true false false) := by
  have e : Tryd.f3.params = #[2] := Tryd.params3
  refine liftedC (laid := Rows.fnExactDecimalRow.laid) Tryd.func3 (by kernel_rfl) rfl rfl (fun H ds h => ?_) (fun t ht => ?_) (fun W => MakeChecks.laidMetH_plain _ _ _ (by kernel_rfl)) os started H enc
    (ChangeSpec.witness_shaped (enc := enc) (C := Tryd.checked) (os := os) (X := fun w _ => laidMetH Tryd.prog Rows.fnExactDecimalRow.laid w) false (World.laidAll Tryd.prog os Rows.fnExactDecimalRow.laid) #[.int .i64 0] 8 (World.laidAll_os _ _ _)
      (World.shaped_of_ZipB (by kernel_rfl) (by kernel_rfl)) (by kernel_rfl) (by kernel_rfl) (by kernel_rfl)
      (by rw [MakeChecks.laidMetH_plain _ _ _ (by kernel_rfl)]; exact laidMet_laidAll _ (by kernel_rfl) (by kernel_rfl))) ?_
  · rw [e] at h
    match ds, h with
    | [d0], _ => rfl
  · rw [e] at ht
    simp at ht
    subst ht
    exact ⟨by kernel_rfl, of_decide_eq_true (by kernel_rfl)⟩
  · intro W base args ds ps hval hA hL hsh
    rw [e] at hA hval
    obtain ⟨v0, vs0, d0, ds0, p0, q0, h_args0, rfl, rfl, h0, r0⟩ := trodAll_cons hA
    obtain ⟨rfl, rfl, rfl⟩ := trodAll_nil r0
    obtain rfl : args = #[v0] := by cases args; simp_all
    obtain ⟨a0, rfl, rfl, rfl, w0⟩ := open_int Tryd.underlying2 (hval 0 2 v0 rfl rfl) h0
    exact law_Decimal a0 w0 W hL hsh

theorem fnExactDecimal_over : Rows.fnExactDecimalRow.holds Tryd.pinned (OpenSpec.ofChange Rows.fnExactDecimalSpec) :=
  OpenClaim.holds_of_wide 3 Tryd.f3 rfl rfl rfl rfl rfl rfl rfl ⟨rfl, rfl, rfl, rfl, rfl⟩ rfl rfl rfl rfl rfl (by kernel_rfl) Tryd.func3 (by kernel_rfl)
    (of_decide_eq_true (by kernel_rfl)) (by unfold Func.isWrapper; first | (rw [if_pos (by decide +kernel)]; kernel_rfl) | (rw [if_neg (by decide +kernel)]; exact ⟨rfl, rfl⟩))
    (fun os started H enc _ => fnExactDecimal_lifted os started H enc)

theorem fnExactDecimal_proved : Rows.FnExactDecimalCardSaid :=
  Claim7.holds_tied_plain_at .later [] [.data, .data, .data] true (true, "3300499e551ced00f69919dd2d93f046dec0473f919f7e83bf63452bb29d53b2") true fnExactDecimal_over (fun _ h => by cases h) (by kernel_rfl) (fun _ h => by cases h) fnExactDecimal_row_tie rfl ⟨rfl, rfl⟩ (by kernel_rfl) rfl
    (fun f fn hf hfn => by
      obtain rfl : f = 3 := Option.some.inj ((show Tryd.prog.funcNamed "loop.example/g00918/laws.FnExactDecimal" = some 3 by kernel_rfl).symm.trans hf) |>.symm
      obtain rfl : fn = Tryd.f3 := (Option.some.inj (Tryd.func3.symm.trans hfn)).symm
      exact ⟨by kernel_rfl, fun j t ht => by
        rw [Tryd.params3] at ht
        have hm : t ∈ [2] := by have := Array.mem_of_getElem? ht; simpa using this
        have hall : ([2].all fun u => !Tryd.prog.wantsStandIn u) = true := by kernel_rfl
        exact (show Tryd.prog.wantsStandIn t = false by simpa using List.all_eq_true.1 hall t hm)⟩)
    (by kernel_rfl)
#print axioms fnExactDecimal_proved
end Go.Proofs.YtgpmlpneffbbbaaDoor
