/-
  The number of a Rice code, in plain words; the parts that program and reference share.
-/
import Derived.Test.YtigingjpdlfanaaDoorAreBits
import Derived.IntWalk
namespace Go.Proofs.YtigingjpdlfanaaDoor
set_option linter.unusedSimpArgs false
set_option linter.unusedVariables false
set_option maxRecDepth 20000
open Go.RowKit
open Go.ChangeShapes Go.WideShapes Go.Deep Go.Joins

/-- the number in some bits -/
def valB (l : List UInt8) : Nat := l.foldl (fun n b => 2 * n + (b.toNat - 48)) 0
theorem valB_snoc (l : List UInt8) (b : UInt8) : valB (l ++ [b]) = 2 * valB l + (b.toNat - 48) := by simp [valB]
theorem rev_rec {P : List UInt8 → Prop} (h0 : P []) (h1 : ∀ l b, P l → P (l ++ [b])) (l : List UInt8) : P l := by
  have h : ∀ m : List UInt8, P m.reverse := fun m => by
    induction m with
    | nil => exact h0
    | cons x m ih => rw [List.reverse_cons]; exact h1 _ _ ih
  have := h l.reverse
  rwa [List.reverse_reverse] at this
theorem valB_bd {l : List UInt8} (h : l.all isBit = true) : valB l < 2 ^ l.length := by
  revert h
  refine rev_rec (P := fun l => l.all isBit = true → valB l < 2 ^ l.length) ?_ ?_ l
  · intro _; simp [valB]
  · intro l b ih h
    rw [List.all_append, Bool.and_eq_true] at h
    have h1 := ih h.1
    have h2 : b.toNat - 48 ≤ 1 := by
      have h3 : isBit b = true := by simpa using h.2
      rcases bit_cases (b := b) with ⟨_, h4 | h4⟩ | ⟨h4, _⟩
      · subst h4; decide
      · subst h4; decide
      · rw [h3] at h4; cases h4
    rw [valB_snoc, List.length_append, List.length_singleton, Nat.pow_succ]
    omega
theorem valB_take {l : List UInt8} {k : Nat} (h : k < l.length) : valB (l.take (k + 1)) = 2 * valB (l.take k) + (l[k].toNat - 48) := by rw [List.take_succ_eq_append_getElem h, valB_snoc]
/-- the number with a sign -/
def unfI (u : Nat) : Int := if u % 2 = 1 then -(((u + 1) / 2 : Nat) : Int) else ((u / 2 : Nat) : Int)
theorem unfI_odd (v : Nat) : unfI (2 * v + 1) = -((v : Int) + 1) := by unfold unfI; rw [if_pos (by omega)]; omega
theorem unfI_even (v : Nat) : unfI (2 * v) = (v : Int) := by unfold unfI; rw [if_neg (by omega)]; omega
theorem par (u : Nat) : (∃ v, u = 2 * v + 1) ∨ ∃ v, u = 2 * v := by
  rcases Nat.mod_two_eq_zero_or_one u with h | h
  · exact .inr ⟨u / 2, by omega⟩
  · exact .inl ⟨u / 2, by omega⟩
theorem bit_val {b : UInt8} (h : isBit b = true) : (b.toNat : Int) = 48 ∨ (b.toNat : Int) = 49 := by
  rcases bit_cases (b := b) with ⟨_, h4 | h4⟩ | ⟨h4, _⟩
  · left; subst h4; rfl
  · right; subst h4; rfl
  · rw [h] at h4; cases h4
theorem pow_le {k : Nat} (h : k ≤ 32) : 2 ^ k ≤ 4294967296 := Nat.pow_le_pow_right (n := 2) (by omega) h
/-- how many ones stand at a (20 at the most) -/
structure OnesAt (s : ByteArray) (a q : Nat) : Prop where
  le : q ≤ 20
  fit : a + q ≤ s.size
  one : ∀ j, j < q → ∀ h : a + j < s.size, s[a + j] = 49
  stop : q = 20 ∨ a + q = s.size ∨ ∃ h : a + q < s.size, ¬ s[a + q] = 49
theorem ones_exist (s : ByteArray) (a : Nat) : ∀ (f j : Nat), 20 - j = f → j ≤ 20 → a + j ≤ s.size → (∀ i, i < j → ∀ h : a + i < s.size, s[a + i] = 49) → ∃ q, OnesAt s a q
  | 0, j, hf, hj, hfit, hone => ⟨j, by omega, hfit, hone, .inl (by omega)⟩
  | f + 1, j, hf, hj, hfit, hone => by
    rcases Nat.lt_or_ge (a + j) s.size with hlt | hge
    · by_cases h : s[a + j] = 49
      · refine ones_exist s a f (j + 1) (by omega) (by omega) (by omega) fun i hi hs => ?_
        rcases Nat.lt_or_ge i j with h1 | h1
        · exact hone i h1 hs
        · obtain rfl : i = j := by omega
          exact h
      · exact ⟨j, hj, hfit, hone, .inr (.inr ⟨hlt, h⟩)⟩
    · exact ⟨j, hj, hfit, hone, .inr (.inl (by omega))⟩
end Go.Proofs.YtigingjpdlfanaaDoor
