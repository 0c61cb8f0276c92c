/-
  An argument that is a slice, opened as a list in memory.
-/
import Derived.Test.YtinlhigpmchiaaaGreatDoorKda
import Derived.Deep.Slices
import Derived.ChangeSame
namespace Go.Proofs.YtinlhigpmchiaaaGreatDoor
set_option linter.unusedSimpArgs false
set_option linter.unusedVariables false
set_option maxRecDepth 20000
open Go.RowKit
open Go.ChangeShapes Go.WideShapes Go.Deep Go.Joins

/-- from cells element by element -/
theorem Rd.of {α : Type} {f : α → List Value} {size : Nat} (hf : ∀ a, (f a).length = size) {w : World} {b off : Nat} {l : List α} (hb : 0 < l.length → b < w.heap.size)
    (h : ∀ (k : Nat) (hk : k < l.length) (i : Nat) (u : Value), (f l[k])[i]? = some u → w.cell? ⟨b, off + (k * size + i), none⟩ = some u) : Rd w (some ⟨b, off, none⟩) l.length size (rowOf f l) := by
  refine ⟨rowOf_length hf l, fun hn => ⟨b, off, rfl, hb hn, fun j u hu => ?_⟩⟩
  have hj : j < (rowOf f l).length := (List.getElem?_eq_some_iff.1 hu).1
  rw [rowOf_length hf] at hj
  have hs : 0 < size := by
    rcases Nat.eq_zero_or_pos size with h0 | h0
    · subst h0; simp at hj
    · exact h0
  have hk : j / size < l.length := (Nat.div_lt_iff_lt_mul hs).2 hj
  have hi : j % size < size := Nat.mod_lt _ hs
  have e : j / size * size + j % size = j := by rw [Nat.mul_comm]; exact Nat.div_add_mod j size
  have := rowOf_at hf l (j / size) hk (j % size) hi
  rw [e, hu] at this
  have := h (j / size) hk (j % size) u this.symm
  rwa [e] at this

/-- an argument that is a slice of structs that read as elements of 'α' -/
theorem open_list {H : Type} {enc : TypeId × Value → H} {P : Program} {w : World} {t e : TypeId} {fuel : Nat} {cs : List Value} {x : DataW H × List MemPlace} {α : Type} [Inhabited α] {f : α → List Value} {size : Nat}
    (good : α → Prop) (hsz : 0 < size) (ht : P.underlying t = some (.slice e)) (hc : P.cellsOf e = size) (hf : ∀ a, (f a).length = size)
    (hel : ∀ cs' n y, cs'.length = size → DataW.trod enc P w 0 (fun _ => true) true n e cs' = some y → ∃ a, cs' = f a ∧ good a)
    (h : DataW.trod enc P w 0 (fun _ => true) true fuel t cs = some x) :
    ∃ (A : Option Addr) (c : Nat) (l : List α), cs = [.slice A l.length c] ∧ l.length ≤ c ∧ c ≤ 9223372036854775807 ∧ Rd w A l.length size (rowOf f l) ∧ ∀ a ∈ l, good a := by
  rcases open_slice ht h with ⟨rfl, _⟩ | ⟨a, len, cap, m, n, D, Pl, rfl, hb, hl, hm, hmm, hx, hi⟩
  · exact ⟨none, 0, [], rfl, by simp, by simp, Rd.nil _ _ _, by simp⟩
  · have hlm : len ≤ m := by rw [hmm]; split <;> omega
    obtain ⟨Q, hQ⟩ := choose_lt (α := α) (n := len) (p := fun k q => good q ∧ ∀ i u, (f q)[i]? = some u → w.cell? (a.add (k * size + i)) = some u) (fun k hk => by
      obtain ⟨cs', h1, h2⟩ := hi k (by omega)
      rw [hc] at h1
      obtain ⟨_, hcl, hat⟩ := World.cells?_some h1
      obtain ⟨q, rfl, hg⟩ := hel _ _ _ hcl h2
      refine ⟨q, hg, fun i u hu => ?_⟩
      have hil : i < size := by rw [← hcl]; exact (List.getElem?_eq_some_iff.1 hu).1
      rw [← add_add, hat i hil, hu])
    refine ⟨some a, cap, (List.range len).map Q, by simp, by simpa using hl, by unfold maxLen at hm; omega, ?_, by
      intro q hq
      obtain ⟨k, hk, rfl⟩ := List.mem_map.1 hq
      exact (hQ k (List.mem_range.1 hk)).1⟩
    rcases Nat.eq_zero_or_pos len with h0 | h0
    · subst h0
      exact Rd.nil _ _ _
    · obtain ⟨b, off, spot⟩ := a
      have hc0 := (hQ 0 h0).2 0 ((f (Q 0))[0]'(by rw [hf]; exact hsz)) (List.getElem?_eq_getElem (by rw [hf]; exact hsz))
      have hspot : spot = none := by simpa [Addr.add] using World.cell?_spot hc0
      subst hspot
      rw [add_plain] at hc0
      refine Rd.of hf (fun _ => ?_) (fun k hk i u hu => ?_)
      · exact World.block_lt_of_cell? w _ hc0
      · have hk' : k < len := by simpa using hk
        have := (hQ k hk').2 i u (by simpa using hu)
        rwa [add_plain] at this
end Go.Proofs.YtinlhigpmchiaaaGreatDoor
