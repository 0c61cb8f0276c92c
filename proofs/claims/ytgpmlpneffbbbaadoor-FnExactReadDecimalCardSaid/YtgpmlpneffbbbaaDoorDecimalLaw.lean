/-
  The law of Decimal returns true: program and reference write the same decimal text.
-/
import Derived.Test.YtgpmlpneffbbbaaDoorDecimal
import Derived.Test.YtgpmlpneffbbbaaDoorBaseC
namespace Go.Proofs.YtgpmlpneffbbbaaDoor
set_option linter.unusedSimpArgs false
set_option linter.unusedVariables false
set_option maxRecDepth 20000
open Go.RowKit
open Go.ChangeShapes Go.WideShapes Go.Deep Go.Joins

theorem pow10_is {laid : List (String × DataW Unit)} {W : World} (hL : laidMet Tryd.prog (("internal/strconv.uint64pow10", Rows.laid_internal_strconv_uint64pow10) :: laid) W) : Tab10 W := by
  have e : (Rows.laid_internal_strconv_uint64pow10 : DataW Unit) = Lib.tabData .u64 Lib.pow10Tab := by kernel_rfl
  rw [e] at hL
  exact Lib.tabIs_of_head (g := (Tryd.prog.globalNamed "internal/strconv.uint64pow10").getD 0) (t := 79) (e := 56) (n := 20) (by kernel_rfl) (by kernel_rfl) (by kernel_rfl) (by kernel_rfl) (by kernel_rfl) (by kernel_rfl) hL
theorem sDecimal_any (n : Int) (h0 : -9223372036854775808 ≤ n) (h1 : n ≤ 9223372036854775807) (w : World) : Calls Tryd.prog 8 #[.int .i64 n] w fun e w' => e = .returned (.string ⟨(Lib.itoa n).toArray⟩) ∧ Below w.heap.size w w' := by
  go_enter Tryd.func8, Tryd.ntmps8
  go_wp2_with fail
  refine (l01Dec_any n h0 h1 _).mono ?_
  rintro e w1 ⟨rfl, hb1⟩
  go_wp2_with fail
  go_ret
  exact ⟨rfl, hb1⟩
set_option maxHeartbeats 4000000 in
theorem Decimal_walk (n : Int) (h0 : -9223372036854775808 ≤ n) (h1 : n ≤ 9223372036854775807) (w : World) (ht : Tab10 w) : Calls Tryd.prog 3 #[.int .i64 n] w (Yes w) := by
  have HT := Lib.hid ht
  clear ht
  go_enter Tryd.func3, Tryd.ntmps3
  go_wp2_with fail
  refine (sDecimal_any n h0 h1 _).mono ?_
  rintro e w1 ⟨rfl, hb1⟩
  have HT1 := Lib.hid (HT.out.below hb1)
  go_wp2_with fail
  refine (decimal_any n h0 h1 _ HT1.out).mono ?_
  rintro e w2 ⟨rfl, hb2⟩
  have hB := Below.next hb1 hb2
  go_wp2_with fail
  go_ret
  exact ⟨rfl, hB⟩
theorem law_Decimal {W : World} (n : Int) (h : (Lit.int .i64 n).wf = true) (_ : World) (hL : laidMet Tryd.prog Rows.fnExactDecimalRow.laid W) (_ : W.ShapedOpen Tryd.prog) : Calls Tryd.prog 3 #[.int .i64 n] W (Yes W) := by
  have hx : -9223372036854775808 ≤ n ∧ n ≤ 9223372036854775807 := by simpa [Lit.wf, IntKind.min, IntKind.max, IntKind.signed, IntKind.bits] using h
  exact Decimal_walk n hx.1 hx.2 W (pow10_is (laidMet.tail (laidMet.tail hL)))
end Go.Proofs.YtgpmlpneffbbbaaDoor
