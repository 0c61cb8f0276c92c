/-
  The reference's text of an ink.
-/
import Derived.Test.YtigingjpdlfanaaDoorInkTx
namespace Go.Proofs.YtigingjpdlfanaaDoor
set_option linter.unusedSimpArgs false
set_option linter.unusedVariables false
set_option maxRecDepth 20000
open Go.RowKit
open Go.ChangeShapes Go.WideShapes Go.Deep Go.Joins

theorem sInkText_any (A : Option Addr) (n c : Nat) (S : List St) (P : List (List Pt)) (w : World) (h : InkRd w A n S) (hP : ptsOf S = P) (hs : ∀ s ∈ S, s.l.length ≤ 1048576) (hn : n ≤ 1048576) :
    Calls Tryd.prog 12 #[.agg #[.slice A n c]] w fun e w' => e = .returned (.string (bs (txR P))) ∧ Below w.heap.size w w' := by
  have HA := Lib.hid (h.alloc (.cells #[.slice A n c] 44))
  have HK : Hid (Bk (w.alloc (.cells #[.slice A n c] 44)) w.heap.size 44 #[.slice A n c]) := Bk.new w _ _
  have hc := l02Ok_any w.heap.size 0 A n c S (w.alloc (.cells #[.slice A n c] 44)) (HK.out.cell 0) HA.out hs hn
  rw [hP] at hc
  clear h
  cases hv : inkB P
  · rw [hv] at hc
    have HV : Hid (txR P = []) := by unfold txR; rw [hv]; rfl
    clear hv
    go_enter Tryd.func12, Tryd.ntmps12
    go_wp2_with fail
    refine hc.mono ?_
    rintro e w2 ⟨rfl, hb2⟩
    have hB : Below w.heap.size w w2 := Below.next (by go_grown) hb2
    clear hb2 hc
    go_wp2_with fail
    go_ret
    exact ⟨by rw [HV.out]; rfl, hB⟩
  · rw [hv] at hc
    have HV : Hid (txR P = inkTx P) := by unfold txR; rw [hv]; rfl
    have HI := Lib.hid hv
    clear hv
    go_enter Tryd.func12, Tryd.ntmps12
    go_wp2_with fail
    refine hc.mono ?_
    rintro e w2 ⟨rfl, hb2⟩
    have hB : Below w.heap.size w w2 := Below.next (by go_grown) hb2
    have HK2 := Lib.hid (HK.out.next hb2)
    have HA2 := Lib.hid (HA.out.below hb2)
    clear hb2 hc
    go_wp2_with fail
    refine (l02Text_any w.heap.size A n c S P _ (HK2.out.cell 0) HA2.out hP HI.out).mono ?_
    rintro e w3 ⟨rfl, hb3⟩
    have hB3 := Below.next hB hb3
    clear hb3
    go_wp2_with fail
    go_ret
    exact ⟨by rw [HV.out]; rfl, hB3⟩
theorem pow10_is {laid : List (String × DataW Unit)} {W : World} (hL : laidMet Tryd.prog (("internal/strconv.uint64pow10", Rows.laid_internal_strconv_uint64pow10) :: laid) W) : Tab10 W := by
  have e : (Rows.laid_internal_strconv_uint64pow10 : DataW Unit) = Lib.tabData .u64 Lib.pow10Tab := by kernel_rfl
  rw [e] at hL
  exact Lib.tabIs_of_head (g := (Tryd.prog.globalNamed "internal/strconv.uint64pow10").getD 0) (t := 184) (e := 165) (n := 20) (by kernel_rfl) (by kernel_rfl) (by kernel_rfl) (by kernel_rfl) (by kernel_rfl) (by kernel_rfl) hL
end Go.Proofs.YtigingjpdlfanaaDoor
