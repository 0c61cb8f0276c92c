/-
  A stroke added to an ink: program and reference give the same.
-/
import Derived.Test.YtnmmnikoogjhoaaMovePlain
import Derived.Test.YtnmmnikoogjhoaaOwnInkS
import Derived.Test.YtnmmnikoogjhoaaCutInk
namespace Go.Proofs.Ytnmmnikoogjhoaa
set_option linter.unusedSimpArgs false
set_option linter.unusedVariables false
set_option maxRecDepth 20000
open Go.RowKit
open Go.ChangeShapes Go.WideShapes Go.Deep Go.Joins

/-- may the stroke follow? -/
def nextB (P : List (List Pt)) (l : List Pt) : Bool := decide (P.length = 0 ∨ lT (P.getD (P.length - 1) []) < fT l)
theorem inkB_snoc {P : List (List Pt)} {l : List Pt} (h : inkB P = true) (hl : strB l = true) (hn : P.length < 16) : inkB (P ++ [l]) = nextB P l := by
  unfold inkB at h ⊢
  rw [Bool.and_eq_true] at h
  have hlen : decide ((P ++ [l]).length ≤ 16) = true := decide_eq_true (by simp; omega)
  rw [hlen, Bool.and_true]
  have hall := of_decide_eq_true h.1
  unfold ikAll nextB
  rw [Bool.eq_iff_iff, decide_eq_true_iff, decide_eq_true_iff]
  constructor
  · intro H
    by_cases h0 : P.length = 0
    · exact .inl h0
    · right
      have h1 := (H ⟨P.length, by simp⟩).2 (by simp only; omega)
      simp only at h1
      rw [List.getElem_append_left (show P.length - 1 < P.length by omega), List.getElem_append_right (Nat.le_refl _)] at h1
      simp only [Nat.sub_self, List.getElem_cons_zero] at h1
      rwa [List.getD_eq_getElem?_getD, List.getElem?_eq_getElem (show P.length - 1 < P.length by omega), Option.getD_some]
  · intro H j
    obtain ⟨j, hj⟩ := j
    simp only [List.length_append, List.length_singleton] at hj
    simp only
    rcases Nat.lt_or_ge j P.length with hlt | hge
    · have h1 := hall ⟨j, hlt⟩
      simp only at h1
      refine ⟨by rw [List.getElem_append_left hlt]; exact h1.1, fun h0 => ?_⟩
      rw [List.getElem_append_left (show j - 1 < P.length by omega), List.getElem_append_left hlt]
      exact h1.2 h0
    · have e : j = P.length := by omega
      subst e
      refine ⟨by rw [List.getElem_append_right (Nat.le_refl _)]; simpa using hl, fun h0 => ?_⟩
      rw [List.getElem_append_left (show P.length - 1 < P.length by omega), List.getElem_append_right (Nat.le_refl _)]
      simp only [Nat.sub_self, List.getElem_cons_zero]
      rcases H with H | H
      · omega
      · rwa [List.getD_eq_getElem?_getD, List.getElem?_eq_getElem (show P.length - 1 < P.length by omega), Option.getD_some] at H
def addR (P : List (List Pt)) (l : List Pt) : List (List Pt) × Int :=
  if inkB P = true then (if strB l = true then (if P.length < 16 then (if nextB P l = true then (P ++ [l], 0) else ([], 6)) else ([], 5)) else ([], 1)) else ([], 1)
theorem addR_no {P : List (List Pt)} {l : List Pt} (h : inkB P = false) : addR P l = ([], 1) := by simp [addR, h]
theorem addR_bad {P : List (List Pt)} {l : List Pt} (h : inkB P = true) (h2 : strB l = false) : addR P l = ([], 1) := by simp [addR, h, h2]
theorem addR_full {P : List (List Pt)} {l : List Pt} (h : inkB P = true) (h2 : strB l = true) (h3 : ¬ P.length < 16) : addR P l = ([], 5) := by simp [addR, h, h2, h3]
theorem addR_late {P : List (List Pt)} {l : List Pt} (h : inkB P = true) (h2 : strB l = true) (h3 : P.length < 16) (h4 : nextB P l = false) : addR P l = ([], 6) := by simp [addR, h, h2, h3, h4]
theorem addR_ok {P : List (List Pt)} {l : List Pt} (h : inkB P = true) (h2 : strB l = true) (h3 : P.length < 16) (h4 : nextB P l = true) : addR P l = (P ++ [l], 0) := by simp [addR, h, h2, h3, h4]
theorem addR_small (P : List (List Pt)) (l : List Pt) : smallP (addR P l).1 := by
  cases h : inkB P
  · rw [addR_no h]; exact smallP_nil
  · cases h2 : strB l
    · rw [addR_bad h h2]; exact smallP_nil
    · by_cases h3 : P.length < 16
      · cases h4 : nextB P l
        · rw [addR_late h h2 h3 h4]; exact smallP_nil
        · rw [addR_ok h h2 h3 h4]
          have h5 := smallP_of h
          refine ⟨by simp; omega, fun m hm => ?_⟩
          rcases List.mem_append.1 hm with hm | hm
          · exact h5.2 m hm
          · rw [List.mem_singleton.1 hm]
            exact (strB_true h2).2.1
      · rw [addR_full h h2 h3]; exact smallP_nil
theorem ptsOf_snoc (T : List St) (t : St) : ptsOf (T ++ [t]) = ptsOf T ++ [t.l] := by simp [ptsOf]
theorem iValidStroke_is {A : Option Addr} {n c : Nat} {xs : List Pt} {v : Bool} (h : Hid (strB xs = v)) (w : World) (ha : Rd w A n 3 (rowOf ptC xs)) (la : xs.length = n) (hn : n ≤ 1048576) :
    Calls Try.prog 43 #[.agg #[.slice A n c]] w fun e w' => e = .returned (.bool v) ∧ Below w.heap.size w w' := iValidStroke_of h w ha la hn
end Go.Proofs.Ytnmmnikoogjhoaa
