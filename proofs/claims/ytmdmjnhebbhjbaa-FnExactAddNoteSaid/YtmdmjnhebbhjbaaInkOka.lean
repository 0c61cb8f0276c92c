/-
  An ink is valid: program and reference ask the same. An ink is valid: the reference asks the same of one in memory. An argument that is an ink, opened. An ink by value is valid; its points are counted.
-/
import Derived.Test.YtmdmjnhebbhjbaaPtsa
import Derived.Test.YtmdmjnhebbhjbaaGeo
namespace Go.Proofs.Ytmdmjnhebbhjbaa
set_option linter.unusedSimpArgs false
set_option linter.unusedVariables false
set_option maxRecDepth 20000
open Go.RowKit
open Go.ChangeShapes Go.WideShapes Go.Deep Go.Joins

def fT (l : List Pt) : Int := (l.getD 0 default).t
def lT (l : List Pt) : Int := (l.getD (l.length - 1) default).t
def ikTo (S : List St) (k : Nat) : Prop := ∀ (j : Nat) (h : j < S.length), j < k → strB S[j].l = true ∧ (0 < j → lT (S[j - 1]'(by omega)).l < fT S[j].l)
def ikAll (P : List (List Pt)) : Bool := decide (∀ j : Fin P.length, strB P[j.1] = true ∧ (0 < j.1 → lT (P[j.1 - 1]'(by omega)) < fT P[j.1]))
def inkB (P : List (List Pt)) : Bool := ikAll P && decide (P.length ≤ 16)
theorem ptsOf_get (S : List St) (k : Nat) (h : k < (ptsOf S).length) (h2 : k < S.length) : (ptsOf S)[k] = S[k].l := by simp [ptsOf]
theorem ikAll_true {S : List St} {k : Nat} (h : ikTo S k) (hk : S.length ≤ k) : ikAll (ptsOf S) = true := decide_eq_true fun j => by
  have hj : j.1 < S.length := Nat.lt_of_lt_of_le j.2 (Nat.le_of_eq (ptsOf_len S))
  have h1 := h j.1 hj (Nat.lt_of_lt_of_le hj hk)
  rw [ptsOf_get S j.1 j.2 hj]
  refine ⟨h1.1, fun h0 => ?_⟩
  rw [ptsOf_get S (j.1 - 1) _ (by omega)]
  exact h1.2 h0
theorem ikAll_str {S : List St} {k : Nat} (hk : k < S.length) (h : strB S[k].l = false) : ikAll (ptsOf S) = false := decide_eq_false fun H => by
  have := (H ⟨k, by rw [ptsOf_len]; exact hk⟩).1
  simp only [ptsOf_get S k (by rw [ptsOf_len]; exact hk) hk] at this
  rw [h] at this
  cases this
theorem ikAll_t {S : List St} {k : Nat} (hk : k + 1 < S.length) (h : ¬ lT (S[k]'(by omega)).l < fT S[k + 1].l) : ikAll (ptsOf S) = false := decide_eq_false fun H => by
  have h1 := (H ⟨k + 1, by rw [ptsOf_len]; exact hk⟩).2 (by simp)
  simp only [Nat.add_sub_cancel] at h1
  rw [ptsOf_get S (k + 1) (by rw [ptsOf_len]; exact hk) hk, ptsOf_get S k (by rw [ptsOf_len]; omega) (by omega)] at h1
  exact h h1
theorem ikTo_next0 {S : List St} (hk : 0 < S.length) (h1 : strB S[0].l = true) : ikTo S 1 := fun j hj hlt => by
  obtain rfl : j = 0 := by omega
  exact ⟨h1, fun h => absurd h (by omega)⟩
theorem ikTo_next {S : List St} {k : Nat} (h : ikTo S (k + 1)) (hk : k + 1 < S.length) (h1 : strB S[k + 1].l = true) (h2 : lT (S[k]'(by omega)).l < fT S[k + 1].l) : ikTo S (k + 1 + 1) := fun j hj hlt => by
  rcases Nat.lt_or_ge j (k + 1) with hjk | hjk
  · exact h j hj hjk
  · obtain rfl : j = k + 1 := by omega
    exact ⟨h1, fun _ => h2⟩
theorem inkB_no {P : List (List Pt)} (h : ikAll P = false) : false = inkB P := by rw [inkB, h, Bool.false_and]
theorem inkB_len {S : List St} {n : Nat} (h : ikAll (ptsOf S) = true) (hl : S.length = n) : decide (n ≤ 16) = inkB (ptsOf S) := by rw [inkB, h, Bool.true_and, ptsOf_len, hl]
theorem strB_pos {l : List Pt} (h : strB l = true) : ∃ m, l.length = m + 1 ∧ m ≤ 59 := ⟨l.length - 1, by have := (strB_true h).1; omega, by have := (strB_true h).2.1; omega⟩
theorem fT_eq {l : List Pt} (h : 0 < l.length) : fT l = l[0].t := by rw [fT, getD_at h]
theorem lT_eq {l : List Pt} {m : Nat} (h : l.length = m + 1) (hm : m < l.length) : lT l = l[m].t := by
  have e : l.length - 1 = m := by omega
  rw [lT, e, getD_at hm]
end Go.Proofs.Ytmdmjnhebbhjbaa
namespace Go.Proofs.Ytmdmjnhebbhjbaa
set_option linter.unusedSimpArgs false
set_option linter.unusedVariables false
set_option maxRecDepth 20000
open Go.RowKit
open Go.ChangeShapes Go.WideShapes Go.Deep Go.Joins

end Go.Proofs.Ytmdmjnhebbhjbaa
namespace Go.Proofs.Ytmdmjnhebbhjbaa
set_option linter.unusedSimpArgs false
set_option linter.unusedVariables false
set_option maxRecDepth 20000
open Go.RowKit
open Go.ChangeShapes Go.WideShapes Go.Deep Go.Joins

/-- an ink in memory or as an argument: where its strokes lie, what they are -/
structure Ik where
  A : Option Addr
  c : Nat
  l : List St
def Ik.good (w : World) (s : Ik) : Prop := s.l.length ≤ s.c ∧ s.c ≤ 9223372036854775807 ∧ InkRd w s.A s.l.length s.l ∧ ∀ t ∈ s.l, t.good w
theorem Ik.caps {w : World} {s : Ik} (h : s.good w) : ∀ t ∈ s.l, t.l.length ≤ 9223372036854775807 := fun t ht => Nat.le_trans (h.2.2.2 t ht).1 (h.2.2.2 t ht).2.1
theorem fits_each {S : List St} {n : Nat} (hl : S.length = n) (h : n + sumL S n ≤ 1048576) : ∀ s ∈ S, s.l.length ≤ 1048576 := fun s hs => by
  obtain ⟨k, hk, rfl⟩ := List.mem_iff_getElem.1 hs
  have := sumL_at hk
  rw [hl] at this
  omega
theorem each_of {S T : List St} (hp : ptsOf T = ptsOf S) (h : ∀ s ∈ S, s.l.length ≤ 1048576) : ∀ s ∈ T, s.l.length ≤ 1048576 := fun s hs => by
  have h1 : s.l ∈ ptsOf S := hp ▸ List.mem_map_of_mem hs
  obtain ⟨t, ht, e⟩ := List.mem_map.1 h1
  rw [← e]
  exact h t ht
theorem len_of {S T : List St} {n : Nat} (hp : ptsOf T = ptsOf S) (h : S.length = n) : T.length = n := by rw [← ptsOf_len, hp, ptsOf_len, h]
end Go.Proofs.Ytmdmjnhebbhjbaa
namespace Go.Proofs.Ytmdmjnhebbhjbaa
set_option linter.unusedSimpArgs false
set_option linter.unusedVariables false
set_option maxRecDepth 20000
open Go.RowKit
open Go.ChangeShapes Go.WideShapes Go.Deep Go.Joins

theorem inkB_true {S : List St} (h : inkB (ptsOf S) = true) : S.length ≤ 16 ∧ ∀ (k : Nat) (hk : k < S.length), strB S[k].l = true := by
  simp only [inkB, ikAll, Bool.and_eq_true, decide_eq_true_eq] at h
  refine ⟨by have := h.2; rwa [ptsOf_len] at this, fun k hk => ?_⟩
  have h1 := (h.1 ⟨k, by rw [ptsOf_len]; exact hk⟩).1
  simp only [ptsOf_get S k (by rw [ptsOf_len]; exact hk) hk] at h1
  exact h1
def cntP (P : List (List Pt)) : Nat := (P.map List.length).sum
theorem sumL_take (S : List St) (k : Nat) (hk : k ≤ S.length) : sumL S k = cntP ((ptsOf S).take k) := by
  induction k with
  | zero => simp [sumL, cntP]
  | succ k ih =>
    have hk' : k < S.length := hk
    rw [sumL_next hk', ih (by omega), List.take_succ_eq_append_getElem (by rw [ptsOf_len]; exact hk'), ptsOf_get S k (by rw [ptsOf_len]; exact hk') hk']
    simp [cntP]
theorem sumL_all {S : List St} {n : Nat} (h : S.length = n) : sumL S n = cntP (ptsOf S) := by rw [sumL_take S n (by omega), List.take_of_length_le (by rw [ptsOf_len]; omega)]
def cntR (P : List (List Pt)) : Int × Int := if inkB P = true then ((cntP P : Int), 0) else (0, 1)

end Go.Proofs.Ytmdmjnhebbhjbaa
