/-
  The directions of a stroke: program and reference list the same, or refuse alike.
-/
import Derived.Test.YtcglcfjonicjgaaDirs
import Derived.Test.YtcglcfjonicjgaaMarkI
namespace Go.Proofs.Ytcglcfjonicjgaa
set_option linter.unusedSimpArgs false
set_option linter.unusedVariables false
open Go.RowKit
open Go.ChangeShapes Go.WideShapes Go.Deep Go.Joins

def dirsR (l : List Pt) : List Int × Int := if strB l = true then (dirsTo l (l.length - 1), 0) else ([], 1)
theorem dirsR_len (l : List Pt) : (dirsR l).1.length ≤ 60 := by
  unfold dirsR
  split
  · rename_i h
    have h1 := strB_true h
    have h2 := dirsTo_len l (l.length - 1)
    have h3 := h1.2.1
    show (dirsTo l (l.length - 1)).length ≤ 60
    omega
  · simp

set_option maxHeartbeats 4000000 in
theorem iDirectionsOf (A : Option Addr) (n c N : Nat) (code : Int) (xs : List Pt) (L : List Int) (w : World) (ha : Rd w A n 3 (rowOf ptC xs)) (la : xs.length = n) (hn : n ≤ 1048576) (hR : dirsR xs = (L, code)) (hN : L.length = N) :
    Calls Try.prog 48 #[.agg #[.slice A n c]] w fun e w' => ∃ A2 c2, e = .returned (.tuple #[.slice A2 N c2, .int .i64 code]) ∧ Own iC 2 1 w' w.heap.size (.slice A2 N c2) L ∧ Below w.heap.size w w' := by
  have HV := validStroke_any A n c xs (w.alloc (.cells #[.slice A n c] 35)) (ha.alloc _) la hn
  unfold dirsR at hR
  cases h1 : strB xs
  · rw [h1] at HV hR
    have e1 : L = [] ∧ code = 1 := by simp at hR; exact ⟨hR.1, hR.2.symm⟩
    obtain ⟨rfl, rfl⟩ := e1
    obtain rfl : N = 0 := by rw [← hN]; rfl
    have HN := Lib.hid hN
    clear h1 hR hN
    go_enter Try.func48, Try.ntmps48
    go_wp2_with fail
    refine HV.mono ?_
    rintro e w2 ⟨rfl, hb⟩
    go_wp2_with fail
    go_ret2
    exact ⟨none, 0, rfl, Own.nil _ _ _ _ _, Below.next (by go_grown) hb⟩
  · rw [h1] at HV hR
    have e1 : L = dirsTo xs (xs.length - 1) ∧ code = 0 := by simp at hR; exact ⟨hR.1.symm, hR.2.symm⟩
    obtain ⟨rfl, rfl⟩ := e1
    obtain ⟨hn1, hn60, hpt, htt⟩ := strB_true h1
    have HP : Hid (ptsB xs) := hpt
    rw [la] at hn1 hn60
    have HA0 := Lib.hid (ha.alloc (.cells #[.slice A n c] 35))
    have LA := Lib.hid la
    have HN := Lib.hid hN
    clear h1 hpt htt ha la hR hN
    go_enter Try.func48, Try.ntmps48
    go_wp2_with fail
    refine HV.mono ?_
    rintro e w2 ⟨rfl, hb⟩
    clear HV
    have hcs : w2.cell? ⟨w.heap.size, 0, none⟩ = some (.slice A n c) := (hb.cell (p := ⟨w.heap.size, 0, none⟩) (by simp)).trans (by go_simp)
    have hws : w.heap.size < w2.heap.size := by have := hb.size; simp at this; omega
    have HA := Lib.hid (HA0.out.below hb)
    have hT : Below w.heap.size w w2 := Below.next (by go_grown) hb
    clear HA0 hb
    go_wp2_with fail
    refine (directionsOf_any A n c xs _ HA.out LA.out HP.out hn1 hn60).mono ?_
    rintro e w3 ⟨⟨v, rfl, hown⟩, hb3⟩
    have hT3 := Below.next hT hb3
    rw [← LA.out] at hown
    have hown2 := hown.mono (show w.heap.size ≤ w2.heap.size + 1 by omega)
    obtain ⟨A2, c2, rfl, _, _, _⟩ := hown2.rd
    rw [HN.out]
    rw [HN.out] at hown2
    go_wp2_with fail
    go_ret2
    exact ⟨A2, c2, rfl, hown2, hT3⟩

set_option maxHeartbeats 4000000 in
theorem sDirectionsOf (A : Option Addr) (n c N : Nat) (code : Int) (xs : List Pt) (L : List Int) (w : World) (ha : Rd w A n 3 (rowOf ptC xs)) (la : xs.length = n) (hn : n ≤ 1048576) (hR : dirsR xs = (L, code)) (hN : L.length = N) :
    Calls Try.prog 47 #[.agg #[.slice A n c]] w fun e w' => ∃ A2 c2, e = .returned (.tuple #[.slice A2 N c2, .int .i64 code]) ∧ Own iC 2 1 w' w.heap.size (.slice A2 N c2) L ∧ Below w.heap.size w w' := by
  have HV := l02Stroke_any w.heap.size A n c xs (w.alloc (.cells #[.slice A n c] 35)) (by go_simp) (ha.alloc _) la hn
  unfold dirsR at hR
  cases h1 : strB xs
  · rw [h1] at HV hR
    have e1 : L = [] ∧ code = 1 := by simp at hR; exact ⟨hR.1, hR.2.symm⟩
    obtain ⟨rfl, rfl⟩ := e1
    obtain rfl : N = 0 := by rw [← hN]; rfl
    have HN := Lib.hid hN
    clear h1 hR hN
    go_enter Try.func47, Try.ntmps47
    go_wp2_with fail
    refine HV.mono ?_
    rintro e w2 ⟨rfl, hb⟩
    go_wp2_with fail
    go_ret2
    exact ⟨none, 0, rfl, Own.nil _ _ _ _ _, Below.next (by go_grown) hb⟩
  · rw [h1] at HV hR
    have e1 : L = dirsTo xs (xs.length - 1) ∧ code = 0 := by simp at hR; exact ⟨hR.1.symm, hR.2.symm⟩
    obtain ⟨rfl, rfl⟩ := e1
    obtain ⟨hn1, hn60, hpt, htt⟩ := strB_true h1
    have HP : Hid (ptsB xs) := hpt
    rw [la] at hn1 hn60
    have HA0 := Lib.hid (ha.alloc (.cells #[.slice A n c] 35))
    have LA := Lib.hid la
    have HN := Lib.hid hN
    clear h1 hpt htt ha la hR hN
    go_enter Try.func47, Try.ntmps47
    go_wp2_with fail
    refine HV.mono ?_
    rintro e w2 ⟨rfl, hb⟩
    clear HV
    have hcs : w2.cell? ⟨w.heap.size, 0, none⟩ = some (.slice A n c) := (hb.cell (p := ⟨w.heap.size, 0, none⟩) (by simp)).trans (by go_simp)
    have hws : w.heap.size < w2.heap.size := by have := hb.size; simp at this; omega
    have HA := Lib.hid (HA0.out.below hb)
    have hT : Below w.heap.size w w2 := Below.next (by go_grown) hb
    clear HA0 hb
    go_wp2_with fail
    refine (l05Directions_any w.heap.size A n c xs _ hcs HA.out LA.out HP.out hn1 hn60).mono ?_
    rintro e w3 ⟨⟨v, rfl, hown⟩, hb3⟩
    have hT3 := Below.next hT hb3
    rw [← LA.out] at hown
    have hown2 := hown.mono (show w.heap.size ≤ w2.heap.size by omega)
    obtain ⟨A2, c2, rfl, _, _, _⟩ := hown2.rd
    rw [HN.out]
    rw [HN.out] at hown2
    go_wp2_with fail
    go_ret2
    exact ⟨A2, c2, rfl, hown2, hT3⟩
end Go.Proofs.Ytcglcfjonicjgaa
