/-
  The law of ReadDecimal returns true.
-/
import Derived.Test.YtmdmjnhebbhjbaaGreatDoorReadDecI
import Derived.Test.YtmdmjnhebbhjbaaGreatDoorDecimalLaw
import Derived.Test.YtmdmjnhebbhjbaaGreatDoorBaseC
namespace Go.Proofs.YtmdmjnhebbhjbaaGreatDoor
set_option linter.unusedSimpArgs false
set_option linter.unusedVariables false
set_option maxRecDepth 20000
open Go.RowKit
open Go.ChangeShapes Go.WideShapes Go.Deep Go.Joins

theorem errStar : "*" ++ "errors.errorString" = "*errors.errorString" := by decide
theorem errRow (u : TypeId) (h : Tryz.prog.typeName? 3 u = some "*errors.errorString") : u = 222 :=
  typeName_ptr_named (nm := "errors.errorString") (by rw [errStar]; kernel_rfl) (by kernel_rfl) (by decide) u (by rw [errStar]; exact h)
theorem err_is {laid : List (String × DataW Unit)} {W : World} (hL : laidMet Tryz.prog (("strconv.ErrSyntax", Rows.laid_strconv_ErrSyntax) :: laid) W) : ErrIs W := by
  obtain ⟨a, s, hv, _, _, _⟩ := laid_sentinel (g := (Tryz.prog.globalNamed "strconv.ErrSyntax").getD 0) (tp := 222) (te := 224) (ts := 9) hL (by kernel_rfl) (ti := 105) (by kernel_rfl) Tryz.underlying105 errRow Tryz.underlying222 Tryz.underlying224 rfl rfl Tryz.underlying9 (by kernel_rfl) (by kernel_rfl)
  exact ⟨_, _, hv⟩
end Go.Proofs.YtmdmjnhebbhjbaaGreatDoor
