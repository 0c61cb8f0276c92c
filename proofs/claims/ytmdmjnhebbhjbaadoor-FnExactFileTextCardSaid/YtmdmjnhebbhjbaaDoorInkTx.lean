/-
  The text of an ink: program and reference write the same.
-/
import Derived.Test.YtmdmjnhebbhjbaaDoorCommas
namespace Go.Proofs.YtmdmjnhebbhjbaaDoor
set_option linter.unusedSimpArgs false
set_option linter.unusedVariables false
set_option maxRecDepth 20000
open Go.RowKit
open Go.ChangeShapes Go.WideShapes Go.Deep Go.Joins

def txR (P : List (List Pt)) : List UInt8 := if inkB P = true then inkTx P else []
theorem ptTx_com (p : Pt) : comL [p.x, p.y, p.t] = ptTx p := rfl
theorem ptB_num {p : Pt} (h : ptB p = true) : nums [p.x, p.y, p.t] := by
  obtain ⟨h1, h2, h3⟩ := ptB_true h
  intro x hx
  simp only [List.mem_cons, List.not_mem_nil, or_false] at hx
  rcases hx with rfl | rfl | rfl <;> omega
theorem ptTx_le {p : Pt} (h : ptB p = true) : (ptTx p).length ≤ 60 := by
  have := comL_le (ptB_num h)
  rw [ptTx_com] at this
  exact this
theorem strB_pts {l : List Pt} (h : strB l = true) : ∀ p ∈ l, ptB p = true := fun p hp => by
  obtain ⟨_, _, h3, _⟩ := strB_true h
  obtain ⟨j, hj, rfl⟩ := List.mem_iff_getElem.1 hp
  exact h3 j hj
theorem lnTx_le {l : List Pt} (h : ∀ p ∈ l, ptB p = true) : (lnTx l).length ≤ 61 * l.length := by
  have h1 := join_le (c := 32) (M := 60) (ps := l.map ptTx) fun q hq => by
    obtain ⟨p, hp, rfl⟩ := List.mem_map.1 hq
    exact ptTx_le (h p hp)
  rw [List.length_map] at h1
  exact h1
theorem inkTx_next {P : List (List Pt)} {k : Nat} (h : k < P.length) : inkTx (P.take (k + 1)) = inkTx (P.take k) ++ (lnTx P[k] ++ [10]) := by
  unfold inkTx
  rw [List.take_succ_eq_append_getElem h, List.map_append, List.map_append, List.flatten_append]
  simp only [List.map_cons, List.map_nil, List.flatten_cons, List.flatten_nil, List.append_nil]
theorem inkTx_le {P : List (List Pt)} (h : inkB P = true) : ∀ k, k ≤ P.length → (inkTx (P.take k)).length ≤ 3661 * k
  | 0, _ => by simp [inkTx]
  | k + 1, hk => by
    have h1 := inkTx_le h k (by omega)
    have h2 := inkB_str h _ (List.getElem_mem (show k < P.length by omega))
    have h3 := lnTx_le (strB_pts h2)
    obtain ⟨_, h4, _, _⟩ := strB_true h2
    rw [inkTx_next (by omega)]
    simp only [List.length_append, List.length_cons, List.length_nil]
    omega
def wordsP (l : List Pt) (k : Nat) : List ByteArray := (l.take k).map fun x => bs (ptTx x)
theorem wordsP_len {l : List Pt} {k : Nat} (h : k ≤ l.length) : (wordsP l k).length = k := by simp [wordsP, h]
theorem wordsP_next {l : List Pt} {k : Nat} (h : k < l.length) : wordsP l (k + 1) = wordsP l k ++ [bs (ptTx l[k])] := by
  unfold wordsP
  rw [List.take_succ_eq_append_getElem h, List.map_append]
  rfl
theorem wordsP_all {l : List Pt} {k : Nat} (h : l.length ≤ k) : (wordsP l k).map (·.data.toList) = l.map ptTx := by
  unfold wordsP
  rw [List.take_of_length_le h, List.map_map]
  rfl
/-- the first points of a line -/
def lnTo (l : List Pt) (j : Nat) : List UInt8 := jnB 32 ((l.take j).map ptTx)
theorem lnTo_zero (l : List Pt) : lnTo l 0 = [] := by unfold lnTo; rw [List.take_zero]; exact Lib.join_nil _
theorem lnTo_all {l : List Pt} {j : Nat} (h : l.length ≤ j) : lnTo l j = lnTx l := by unfold lnTo lnTx; rw [List.take_of_length_le h]
theorem jnB_snoc (c : UInt8) (q : List UInt8) : ∀ (ps : List (List UInt8)), ps ≠ [] → jnB c (ps ++ [q]) = jnB c ps ++ (c :: q)
  | [], h => absurd rfl h
  | [p], _ => by rw [List.singleton_append, jnB_cons, jnB_one, jnB_one]
  | p :: r :: s, _ => by
    have ih := jnB_snoc c q (r :: s) (by simp)
    rw [List.cons_append, List.cons_append, jnB_cons]
    rw [List.cons_append] at ih
    rw [ih, jnB_cons]
    simp
theorem lnTo_next0 {l : List Pt} (h : 0 < l.length) : lnTo l 1 = lnTo l 0 ++ ptTx l[0] := by
  unfold lnTo
  rw [List.take_succ_eq_append_getElem h, List.take_zero]
  simp only [List.nil_append, List.map_cons, List.map_nil]
  rw [jnB_one]
  show _ = Lib.join [] _ ++ _
  rw [Lib.join_nil, List.nil_append]
theorem lnTo_next {l : List Pt} {j : Nat} (h : j < l.length) (hj : 0 < j) : lnTo l (j + 1) = lnTo l j ++ (32 :: ptTx l[j]) := by
  unfold lnTo
  rw [List.take_succ_eq_append_getElem h, List.map_append, List.map_singleton, jnB_snoc _ _ _ (by
    intro e
    have h1 := congrArg List.length e
    rw [List.length_map, List.length_take, Nat.min_eq_left (by omega)] at h1
    simp at h1
    omega)]
theorem lnTo_le {l : List Pt} (h : ∀ p ∈ l, ptB p = true) (j : Nat) : (lnTo l j).length ≤ 61 * l.length := by
  have h1 := join_le (c := 32) (M := 60) (ps := (l.take j).map ptTx) fun q hq => by
    obtain ⟨p, hp, rfl⟩ := List.mem_map.1 hq
    exact ptTx_le (h p (List.mem_of_mem_take hp))
  rw [List.length_map, List.length_take] at h1
  unfold lnTo
  have h2 : min j l.length ≤ l.length := Nat.min_le_right _ _
  have h3 := Nat.mul_le_mul_left 61 h2
  omega
theorem l01Dec_bs (n : Int) (h : -1000000000000000000 < n ∧ n < 1000000000000000000) (w : World) : Calls Tryd.prog 34 #[.int .i64 n] w fun e w' => e = .returned (.string (bs (Lib.itoa n))) ∧ Below w.heap.size w w' := l01Dec_any n (by omega) (by omega) w
end Go.Proofs.YtmdmjnhebbhjbaaDoor
