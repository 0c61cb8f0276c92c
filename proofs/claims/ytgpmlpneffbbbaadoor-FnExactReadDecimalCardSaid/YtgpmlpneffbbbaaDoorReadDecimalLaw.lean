/-
  The law of ReadDecimal returns true.
-/
import Derived.Test.YtgpmlpneffbbbaaDoorReadDecI
import Derived.Test.YtgpmlpneffbbbaaDoorDecimalLaw
import Derived.Test.YtgpmlpneffbbbaaDoorBaseC
namespace Go.Proofs.YtgpmlpneffbbbaaDoor
set_option linter.unusedSimpArgs false
set_option linter.unusedVariables false
set_option maxRecDepth 20000
open Go.RowKit
open Go.ChangeShapes Go.WideShapes Go.Deep Go.Joins

theorem sReadDecimal_any (s : ByteArray) (hs : s.size ≤ 1048576) (w : World) :
    Calls Tryd.prog 19 #[.string s] w fun e w' => e = decV (decR s.data.toList) ∧ Below w.heap.size w w' := by
  obtain ⟨⟨n, b⟩, hr⟩ : ∃ r, decR s.data.toList = r := ⟨_, rfl⟩
  have HC := Lib.hid (l01Number_any s hs)
  rw [hr] at HC ⊢
  clear hr
  go_enter Tryd.func19, Tryd.ntmps19
  go_wp2_with fail
  refine (HC.out _).mono ?_
  rintro e w1 ⟨rfl, hb1⟩
  unfold decV
  go_wp2_with fail
  refine bodyPost_ret (by simp [results, Tryd.results19, go_sem, *]; try rfl) rfl ?_
  exact ⟨rfl, hb1⟩
theorem errStar : "*" ++ "errors.errorString" = "*errors.errorString" := by decide
theorem errRow (u : TypeId) (h : Tryd.prog.typeName? 3 u = some "*errors.errorString") : u = 96 :=
  typeName_ptr_named (nm := "errors.errorString") (by rw [errStar]; kernel_rfl) (by kernel_rfl) (by decide) u (by rw [errStar]; exact h)
theorem err_is {laid : List (String × DataW Unit)} {W : World} (hL : laidMet Tryd.prog (("strconv.ErrSyntax", Rows.laid_strconv_ErrSyntax) :: laid) W) : ErrIs W := by
  obtain ⟨a, s, hv, _, _, _⟩ := laid_sentinel (g := (Tryd.prog.globalNamed "strconv.ErrSyntax").getD 0) (tp := 96) (te := 98) (ts := 9) hL (by kernel_rfl) (ti := 45) (by kernel_rfl) Tryd.underlying45 errRow Tryd.underlying96 Tryd.underlying98 rfl rfl Tryd.underlying9 (by kernel_rfl) (by kernel_rfl)
  exact ⟨_, _, hv⟩
set_option maxHeartbeats 4000000 in
theorem ReadDecimal_walk (s : ByteArray) (w : World) (ht : Tab10 w) (he : ErrIs w) : Calls Tryd.prog 7 #[.string s] w (Yes w) := by
  by_cases hle : s.size ≤ 1048576
  rotate_left
  · go_enter Tryd.func7, Tryd.ntmps7
    go_wp2_with fail
    go_ret
    exact ⟨rfl, Below.refl _ _⟩
  · obtain ⟨⟨n, b⟩, hr⟩ : ∃ r, decR s.data.toList = r := ⟨_, rfl⟩
    have HS := Lib.hid (sReadDecimal_any s hle)
    have HI := Lib.hid (iReadDecimal_any s hle)
    rw [hr] at HS HI
    have HT := Lib.hid ht
    have HE := Lib.hid he
    clear hr ht he
    go_enter Tryd.func7, Tryd.ntmps7
    go_wp2_with fail
    refine (HS.out _).mono ?_
    rintro e w1 ⟨rfl, hb1⟩
    unfold decV
    go_wp2_with fail
    refine (HI.out _ (HT.out.below hb1) (HE.out.below hb1)).mono ?_
    rintro e w2 ⟨rfl, hb2⟩
    unfold decV
    have hB := Below.next hb1 hb2
    cases b
    all_goals
      go_wp2_with fail
      go_ret
      exact ⟨rfl, hB⟩
theorem law_ReadDecimal {W : World} (s : ByteArray) (h : s.size ≤ maxLen) (_ : World) (hL : laidMet Tryd.prog Rows.fnExactReadDecimalRow.laid W) (_ : W.ShapedOpen Tryd.prog) : Calls Tryd.prog 7 #[.string s] W (Yes W) :=
  ReadDecimal_walk s W (pow10_is (laidMet.tail (laidMet.tail hL))) (err_is (laidMet.tail (laidMet.tail (laidMet.tail (laidMet.tail hL)))))
end Go.Proofs.YtgpmlpneffbbbaaDoor
