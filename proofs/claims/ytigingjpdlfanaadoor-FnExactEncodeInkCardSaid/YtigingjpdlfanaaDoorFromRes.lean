/-
  A list made from residuals: program and reference make the same, or refuse alike.
-/
import Derived.Test.YtigingjpdlfanaaDoorResid
namespace Go.Proofs.YtigingjpdlfanaaDoor
set_option linter.unusedSimpArgs false
set_option linter.unusedVariables false
set_option maxRecDepth 20000
open Go.RowKit
open Go.ChangeShapes Go.WideShapes Go.Deep Go.Joins

def restP (l : List Int) : Prop := ∀ x ∈ l, -1000000000 ≤ x ∧ x ≤ 1000000000
instance (l : List Int) : Decidable (restP l) := by unfold restP; infer_instance
def allB (l : List Int) : Bool := decide (l.length ≤ 60 ∧ restP l)
theorem restP.at {l : List Int} (h : restP l) {k : Nat} (hk : k < l.length) : -1000000000 ≤ l[k] ∧ l[k] ≤ 1000000000 := h _ (List.getElem_mem hk)
def restTo (l : List Int) (k : Nat) : Prop := ∀ (j : Nat) (h : j < l.length), j < k → -1000000000 ≤ l[j] ∧ l[j] ≤ 1000000000
theorem rest_all {l : List Int} {k : Nat} (h : restTo l k) (hk : l.length ≤ k) : restP l := fun x hx => by
  obtain ⟨j, hj, rfl⟩ := List.getElem_of_mem hx
  exact h j hj (by omega)
theorem rest_next {l : List Int} {k : Nat} (h : restTo l k) (hk : k < l.length) (hx : -1000000000 ≤ l[k] ∧ l[k] ≤ 1000000000) : restTo l (k + 1) := fun j hj hlt => by
  rcases Nat.lt_or_ge j k with h1 | h1
  · exact h j hj h1
  · obtain rfl : j = k := by omega
    exact hx
theorem all_no {l : List Int} {k : Nat} (hk : k < l.length) (hx : ¬ (-1000000000 ≤ l[k] ∧ l[k] ≤ 1000000000)) : allB l = false := decide_eq_false fun h => hx (h.2.at hk)

/-- the list of the first k residuals, if all its numbers may be predicted -/
def fromTo (l : List Int) : Nat → Option (List Int)
  | 0 => some []
  | k + 1 => match fromTo l k with
    | none => none
    | some out => if inB (l.getD k 0 + guessI out k) (-125000000) 125000000 = true then some (out ++ [l.getD k 0 + guessI out k]) else none
theorem fromTo_len {l : List Int} {k : Nat} {out : List Int} (h : fromTo l k = some out) : out.length = k := by
  induction k generalizing out with
  | zero => simp [fromTo] at h; subst h; rfl
  | succ k ih =>
    unfold fromTo at h
    split at h
    · cases h
    · rename_i o ho
      split at h
      · injection h with h; subst h; rw [List.length_append, ih ho]; rfl
      · cases h
theorem fromTo_small {l : List Int} {k : Nat} {out : List Int} (h : fromTo l k = some out) : smallP out := by
  induction k generalizing out with
  | zero => simp [fromTo] at h; subst h; intro x hx; cases hx
  | succ k ih =>
    unfold fromTo at h
    split at h
    · cases h
    · rename_i o ho
      split at h
      · rename_i hb
        injection h with h
        subst h
        intro x hx
        rw [List.mem_append] at hx
        rcases hx with hx | hx
        · exact ih ho x hx
        · simp at hx; subst hx; exact inB_true hb
      · cases h
theorem fromTo_no {l : List Int} {k m : Nat} (h : fromTo l k = none) (hk : k ≤ m) : fromTo l m = none := by
  induction m with
  | zero => obtain rfl : k = 0 := by omega
            exact h
  | succ m ih =>
    rcases Nat.lt_or_ge m k with h1 | h1
    · obtain rfl : k = m + 1 := by omega
      exact h
    · unfold fromTo; rw [ih h1]
theorem from_bad {l out : List Int} {k : Nat} (hk : k < l.length) (h : fromTo l k = some out) (hx : inB (l[k] + guessI out k) (-125000000) 125000000 = false) : fromTo l (k + 1) = none := by
  unfold fromTo; rw [h]; simp only; rw [getD_i hk, hx]; rfl
theorem from_good {l out : List Int} {k : Nat} (hk : k < l.length) (h : fromTo l k = some out) (hx : inB (l[k] + guessI out k) (-125000000) 125000000 = true) : fromTo l (k + 1) = some (out ++ [l[k] + guessI out k]) := by
  unfold fromTo; rw [h]; simp only; rw [getD_i hk, hx]; rfl
def fromR (l : List Int) : List Int × Int := if allB l = true then (match fromTo l l.length with | some out => (out, 0) | none => ([], 2)) else ([], 2)
theorem fromR_no {l : List Int} (h : allB l = false) : fromR l = ([], 2) := by rw [fromR, h]; rfl
theorem fromR_none {l : List Int} {k : Nat} (h : fromTo l k = none) (hk : k ≤ l.length) : fromR l = ([], 2) := by
  rw [fromR, fromTo_no h hk]; split <;> rfl
theorem fromR_some {l out : List Int} (h : allB l = true) (h2 : fromTo l l.length = some out) : fromR l = (out, 0) := by rw [fromR, h, h2]; rfl
theorem fromR_len (l : List Int) : (fromR l).1.length ≤ 60 := by
  unfold fromR
  split
  · rename_i h
    split
    · rename_i out ho
      show out.length ≤ 60
      rw [fromTo_len ho]
      exact (of_decide_eq_true h).1
    · simp
  · simp

def fromV (l : List Int) : List Int × Bool := match fromTo l l.length with | some out => (out, true) | none => ([], false)
end Go.Proofs.YtigingjpdlfanaaDoor
