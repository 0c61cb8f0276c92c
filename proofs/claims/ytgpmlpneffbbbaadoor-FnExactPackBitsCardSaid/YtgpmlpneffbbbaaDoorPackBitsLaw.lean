/-
  The law of PackBits returns true.
-/
import Derived.Test.YtgpmlpneffbbbaaDoorPackI
import Derived.Test.YtgpmlpneffbbbaaDoorBaseC
namespace Go.Proofs.YtgpmlpneffbbbaaDoor
set_option linter.unusedSimpArgs false
set_option linter.unusedVariables false
set_option maxRecDepth 20000
open Go.RowKit
open Go.ChangeShapes Go.WideShapes Go.Deep Go.Joins

theorem iPackBits_bad (s : ByteArray) (hs : s.size ≤ 1048576) (h : Hid (bitsOk s = false)) (w : World) :
    Calls Tryd.prog 16 #[.string s] w fun e w' => e = .returned (.tuple #[.string ⟨#[]⟩, .int .i64 7]) ∧ Below w.heap.size w w' := by
  go_enter Tryd.func16, Tryd.ntmps16
  go_wp2_with fail
  refine (areBits_is h hs _).mono ?_
  rintro e w1 ⟨rfl, hb1⟩
  go_wp2_with fail
  refine bodyPost_ret (by simp [results, Tryd.results16, go_sem, *]; try rfl) rfl ?_
  exact ⟨rfl, hb1⟩
theorem sPackBits_bad (s : ByteArray) (hs : s.size ≤ 1048576) (h : Hid (bitsOk s = false)) (w : World) :
    Calls Tryd.prog 15 #[.string s] w fun e w' => e = .returned (.tuple #[.string ⟨#[]⟩, .int .i64 7]) ∧ Below w.heap.size w w' := by
  go_enter Tryd.func15, Tryd.ntmps15
  go_wp2_with (go_at_call 26; refine (l04Ok_is h hs _).mono ?_; rintro e w' ⟨rfl, rfl⟩)
  refine bodyPost_ret (by simp [results, Tryd.results15, go_sem, *]; try rfl) rfl ?_
  exact ⟨rfl, Below.refl _ _⟩
theorem sPackBits_ok (s : ByteArray) (hs : s.size ≤ 1048576) (h : Hid (bitsOk s = true)) (w : World) :
    Calls Tryd.prog 15 #[.string s] w fun e w' => e = .returned (.tuple #[.string ⟨(packTo s s.size).toArray⟩, .int .i64 0]) ∧ Below w.heap.size w w' := by
  go_enter Tryd.func15, Tryd.ntmps15
  go_wp2_with (go_at_call 26; refine (l04Ok_is h hs _).mono ?_; rintro e w' ⟨rfl, rfl⟩)
  refine (l04Pack_any s hs _).mono ?_
  rintro e w1 ⟨rfl, hb1⟩
  go_wp2_with fail
  refine bodyPost_ret (by simp [results, Tryd.results15, go_sem, *]; try rfl) rfl ?_
  exact ⟨rfl, hb1⟩
theorem packs (s : ByteArray) (hs : s.size ≤ 1048576) : ∃ (x : ByteArray) (c : Int), (∀ w, Calls Tryd.prog 15 #[.string s] w fun e w' => e = .returned (.tuple #[.string x, .int .i64 c]) ∧ Below w.heap.size w w') ∧
    (∀ w, Calls Tryd.prog 16 #[.string s] w fun e w' => e = .returned (.tuple #[.string x, .int .i64 c]) ∧ Below w.heap.size w w') := by
  cases h : bitsOk s
  · exact ⟨_, _, sPackBits_bad s hs h, iPackBits_bad s hs h⟩
  · exact ⟨_, _, sPackBits_ok s hs h, iPackBits_any s hs h⟩
set_option maxHeartbeats 4000000 in
theorem PackBits_walk (s : ByteArray) (w : World) : Calls Tryd.prog 5 #[.string s] w (Yes w) := by
  by_cases hle : s.size ≤ 1048576
  rotate_left
  · go_enter Tryd.func5, Tryd.ntmps5
    go_wp2_with fail
    go_ret
    exact ⟨rfl, Below.refl _ _⟩
  · obtain ⟨x, c, hS, hI⟩ := packs s hle
    have HS := Lib.hid hS
    have HI := Lib.hid hI
    clear hS hI
    go_enter Tryd.func5, Tryd.ntmps5
    go_wp2_with fail
    refine (HS.out _).mono ?_
    rintro e w1 ⟨rfl, hb1⟩
    go_wp2_with fail
    refine (HI.out _).mono ?_
    rintro e w2 ⟨rfl, hb2⟩
    have hB := Below.next hb1 hb2
    go_wp2_with fail
    go_ret
    exact ⟨rfl, hB⟩
theorem law_PackBits {W : World} (s : ByteArray) (h : s.size ≤ maxLen) (_ : World) (hL : laidMet Tryd.prog Rows.fnExactPackBitsRow.laid W) (_ : W.ShapedOpen Tryd.prog) : Calls Tryd.prog 5 #[.string s] W (Yes W) := PackBits_walk s W
end Go.Proofs.YtgpmlpneffbbbaaDoor
