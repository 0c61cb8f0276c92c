/-
  A compressed ink read back: program and reference, each by one contract; what comes back is small.
-/
import Derived.Test.YtinlhigpmchiaaaGreatDoorDcM
import Derived.Test.YtinlhigpmchiaaaGreatDoorDcN
namespace Go.Proofs.YtinlhigpmchiaaaGreatDoor
set_option linter.unusedSimpArgs false
set_option linter.unusedVariables false
set_option maxRecDepth 20000
open Go.RowKit
open Go.ChangeShapes Go.WideShapes Go.Deep Go.Joins

theorem sayD_small (l : List UInt8) (o : Option (List (List Pt))) : smallP (sayD l o).1 := by
  cases o with
  | none => exact smallP_nil
  | some P =>
    by_cases h : inkB P = true ∧ encB P = l
    · rw [sayD_yes h.1 h.2]; exact smallP_of h.1
    · have e : sayD l (some P) = ([], 8) := if_neg h
      rw [e]; exact smallP_nil
theorem decS_small (l : List UInt8) : smallP (decS l).1 := by
  unfold decS
  split
  · exact smallP_nil
  · split
    · exact smallP_nil
    · split
      · exact smallP_nil
      · exact sayD_small _ _
theorem iDecodeInk_any (s : ByteArray) (hs : s.size ≤ 1048576) (P : List (List Pt)) (code : Int) (N : Nat) (hR : Hid (decS s.data.toList = (P, code))) (hN : Hid (P.length = N)) (w : World) :
    Calls Tryz.prog 5 #[.string s] w fun e w' => ∃ (A2 : Option Addr) (c2 : Nat) (T : List St), e = .returned (.tuple #[.agg #[.slice A2 N c2], .int .i64 code]) ∧ ptsOf T = P ∧ InkOwn w' w.heap.size w'.heap.size (.slice A2 N c2) T ∧ Below w.heap.size w w' := by
  have hR2 : Hid (decI s.data.toList = (P, code)) := by rw [Hid, dec_same]; exact hR.out
  by_cases h : s.data.toList.length < 5
  · exact idec_head s hs P code N hR2 hN w (.inl h)
  · by_cases h1 : s.data.toList.take 2 = [73, 75]
    · by_cases h3 : csum (s.data.toList.take (s.data.toList.length - 2)) = sumD s.data.toList
      · by_cases h4 : 12500 < (bodyD s.data.toList).length
        · exact idec_long s hs P code N hR2 hN w h h1 h3 h4
        · exact idec_main s hs P code N hR2 hN w h h1 h3 h4
      · exact idec_head s hs P code N hR2 hN w (.inr ⟨h, .inr ⟨h1, h3⟩⟩)
    · exact idec_head s hs P code N hR2 hN w (.inr ⟨h, .inl h1⟩)
theorem sDecodeInk_any (s : ByteArray) (hs : s.size ≤ 1048576) (P : List (List Pt)) (code : Int) (N : Nat) (hR : Hid (decS s.data.toList = (P, code))) (hN : Hid (P.length = N)) (w : World) :
    Calls Tryz.prog 4 #[.string s] w fun e w' => ∃ (A2 : Option Addr) (c2 : Nat) (T : List St), e = .returned (.tuple #[.agg #[.slice A2 N c2], .int .i64 code]) ∧ ptsOf T = P ∧ InkOwn w' w.heap.size w'.heap.size (.slice A2 N c2) T ∧ Below w.heap.size w w' := by
  by_cases h : s.data.toList.length < 5
  · exact sdec_head s hs P code N hR hN w (.inl h)
  · by_cases h1 : s.data.toList.take 2 = [73, 75]
    · by_cases h3 : csum (s.data.toList.take (s.data.toList.length - 2)) = sumD s.data.toList
      · exact sdec_main s hs P code N hR hN w h h1 h3
      · exact sdec_head s hs P code N hR hN w (.inr ⟨h, .inr ⟨h1, h3⟩⟩)
    · exact sdec_head s hs P code N hR hN w (.inr ⟨h, .inl h1⟩)
end Go.Proofs.YtinlhigpmchiaaaGreatDoor
