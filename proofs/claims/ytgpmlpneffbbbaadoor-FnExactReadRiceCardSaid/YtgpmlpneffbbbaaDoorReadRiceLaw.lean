/-
  The law of ReadRice returns true.
-/
import Derived.Test.YtgpmlpneffbbbaaDoorReadRice
import Derived.Test.YtgpmlpneffbbbaaDoorBaseC
namespace Go.Proofs.YtgpmlpneffbbbaaDoor
set_option linter.unusedSimpArgs false
set_option linter.unusedVariables false
set_option maxRecDepth 20000
open Go.RowKit
open Go.ChangeShapes Go.WideShapes Go.Deep Go.Joins

set_option maxHeartbeats 4000000 in
theorem ReadRice_walk (s : ByteArray) (at' k : Int) (w : World) : Calls Tryd.prog 6 #[.string s, .int .i64 at', .int .i64 k] w (Yes w) := by
  by_cases hle : s.size ≤ 1048576
  rotate_left
  · go_enter Tryd.func6, Tryd.ntmps6
    go_wp2_with fail
    go_ret
    exact ⟨rfl, Below.refl _ _⟩
  · obtain ⟨⟨x, y, z⟩, hR⟩ := riceR_exists s at' k
    have HR := Lib.hid hR
    clear hR
    go_enter Tryd.func6, Tryd.ntmps6
    go_wp2_with fail
    refine (sReadRice_any s hle at' k _ HR.out _).mono ?_
    rintro e w1 ⟨rfl, hb1⟩
    unfold ret3
    go_wp2_with fail
    refine (iReadRice_any s hle at' k _ HR.out _).mono ?_
    rintro e w2 ⟨rfl, hb2⟩
    unfold ret3
    have hB := Below.next hb1 hb2
    go_wp2_with fail
    go_ret
    exact ⟨rfl, hB⟩
theorem law_ReadRice {W : World} (s : ByteArray) (h : s.size ≤ maxLen) (at' : Int) (_ : (Lit.int .i64 at').wf = true) (k : Int) (_ : (Lit.int .i64 k).wf = true) (_ : World) (hL : laidMet Tryd.prog Rows.fnExactReadRiceRow.laid W) (_ : W.ShapedOpen Tryd.prog) : Calls Tryd.prog 6 #[.string s, .int .i64 at', .int .i64 k] W (Yes W) := ReadRice_walk s at' k W
end Go.Proofs.YtgpmlpneffbbbaaDoor
