/-
  Numbers in decimal, separated by commas; texts joined.
-/
import Derived.Test.YtmdmjnhebbhjbaaTxtPlain
import Derived.Test.YtmdmjnhebbhjbaaBuilder
import Derived.Test.YtmdmjnhebbhjbaaDecimal
namespace Go.Proofs.Ytmdmjnhebbhjbaa
set_option linter.unusedSimpArgs false
set_option linter.unusedVariables false
set_option maxRecDepth 20000
open Go.RowKit
open Go.ChangeShapes Go.WideShapes Go.Deep Go.Joins

theorem join_le {c : UInt8} {M : Nat} : ∀ {ps : List (List UInt8)}, (∀ p ∈ ps, p.length ≤ M) → (jnB c ps).length ≤ (M + 1) * ps.length
  | [], _ => by show (Lib.join [] _).length ≤ _; rw [Lib.join_nil]; simp
  | [p], h => by rw [jnB_one]; have := h p (by simp); simp; omega
  | p :: q :: r, h => by
    have h1 := h p (by simp)
    have h2 := join_le (c := c) (M := M) (ps := q :: r) fun x hx => h x (List.mem_cons_of_mem _ hx)
    rw [jnB_cons, List.length_append, List.length_cons]
    have e : (M + 1) * (p :: q :: r).length = (M + 1) * (q :: r).length + (M + 1) := by rw [List.length_cons, Nat.mul_add, Nat.mul_one]
    rw [e]
    omega
theorem join_ge {c : UInt8} : ∀ (ps : List (List UInt8)), ps.length ≤ (jnB c ps).length + 1
  | [] => by simp
  | [p] => by simp
  | p :: q :: r => by
    have h2 := join_ge (c := c) (q :: r)
    rw [jnB_cons]
    simp only [List.length_append, List.length_cons] at h2 ⊢
    omega
def nums (l : List Int) : Prop := ∀ x ∈ l, -1000000000000000000 < x ∧ x < 1000000000000000000
/-- numbers in decimal, separated by commas -/
def comL (l : List Int) : List UInt8 := jnB 44 (l.map Lib.itoa)
theorem comL_le {l : List Int} (h : nums l) : (comL l).length ≤ 20 * l.length := by
  have h1 := join_le (c := 44) (M := 19) (ps := l.map Lib.itoa) fun p hp => by
    obtain ⟨x, hx, rfl⟩ := List.mem_map.1 hp
    exact itoa_len (h x hx).1 (h x hx).2
  rw [List.length_map] at h1
  exact h1
def wordsI (l : List Int) (k : Nat) : List ByteArray := (l.take k).map fun x => bs (Lib.itoa x)
theorem wordsI_len {l : List Int} {k : Nat} (h : k ≤ l.length) : (wordsI l k).length = k := by simp [wordsI, h]
theorem wordsI_next {l : List Int} {k : Nat} (h : k < l.length) : wordsI l (k + 1) = wordsI l k ++ [bs (Lib.itoa l[k])] := by
  unfold wordsI
  rw [List.take_succ_eq_append_getElem h, List.map_append]
  rfl
theorem wordsI_all {l : List Int} {k : Nat} (h : l.length ≤ k) : (wordsI l k).map (·.data.toList) = l.map Lib.itoa := by
  unfold wordsI
  rw [List.take_of_length_le h, List.map_map]
  rfl
theorem rowOf_sC' (l : List ByteArray) : rowOf sC l = l.map Value.string := by
  induction l with
  | nil => rfl
  | cons a l ih =>
    have e : rowOf sC (a :: l) = sC a ++ rowOf sC l := rfl
    rw [e, ih]; rfl
end Go.Proofs.Ytmdmjnhebbhjbaa
