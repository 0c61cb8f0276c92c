/-
  A text cut at a byte, in plain words.
-/
import Derived.Test.YtgpmlpneffbbbaaDoorBytes
import Derived.Lib.Split
namespace Go.Proofs.YtgpmlpneffbbbaaDoor
set_option linter.unusedSimpArgs false
set_option linter.unusedVariables false
set_option maxRecDepth 20000
open Go.RowKit

/-- the pieces between the bytes c -/
def splitL (c : UInt8) : List UInt8 → List (List UInt8)
  | [] => [[]]
  | b :: l => if b = c then [] :: splitL c l else (b :: (splitL c l).headD []) :: (splitL c l).tail
theorem splitL_ne (c : UInt8) (l : List UInt8) : splitL c l ≠ [] := by
  cases l with
  | nil => simp [splitL]
  | cons b l => unfold splitL; split <;> simp
theorem splitL_none {c : UInt8} {l : List UInt8} (h : c ∉ l) : splitL c l = [l] := by
  induction l with
  | nil => rfl
  | cons b l ih =>
    have h1 : ¬ b = c := fun e => h (by simp [e])
    have h2 := ih (fun e => h (by simp [e]))
    rw [splitL, if_neg h1, h2]; rfl
theorem splitL_hit {c : UInt8} {a b : List UInt8} (h : c ∉ a) : splitL c (a ++ c :: b) = a :: splitL c b := by
  induction a with
  | nil => rw [List.nil_append, splitL, if_pos rfl]
  | cons x a ih =>
    have h1 : ¬ x = c := fun e => h (by simp [e])
    have h2 := ih (fun e => h (by simp [e]))
    rw [List.cons_append, splitL, if_neg h1, h2]; rfl
theorem idx_one (c : UInt8) : ∀ l : List UInt8, (Lib.index l [c] = -1 ∧ c ∉ l) ∨ ∃ a b, l = a ++ c :: b ∧ c ∉ a ∧ Lib.index l [c] = (a.length : Int)
  | [] => .inl ⟨by simp [Lib.index], by simp⟩
  | x :: l => by
    by_cases h : c = x
    · subst h
      exact .inr ⟨[], l, rfl, by simp, by simp [Lib.index]⟩
    · have hp : ([c] : List UInt8).isPrefixOf (x :: l) = false := by simp [List.isPrefixOf, h]
      rcases idx_one c l with ⟨h1, h2⟩ | ⟨a, b, rfl, h2, h3⟩
      · exact .inl ⟨by rw [Lib.index, hp, h1]; rfl, by simp [h, h2]⟩
      · refine .inr ⟨x :: a, b, rfl, by simp [h, h2], ?_⟩
        have h4 : ¬ ((a.length : Int) == -1) = true := by rw [beq_iff_eq]; omega
        rw [Lib.index, hp, h3, if_neg (by simp), if_neg h4]
        simp
theorem split_lib (c : UInt8) (n : Nat) : ∀ (l : List UInt8), l.length ≤ n → Lib.split l [c] = splitL c l := by
  induction n with
  | zero =>
    intro l hn
    obtain rfl : l = [] := List.eq_nil_of_length_eq_zero (by omega)
    have h1 : Lib.index [] [c] = -1 := by simp [Lib.index]
    unfold Lib.split
    rw [Lib.count_miss h1]; rfl
  | succ n ihn =>
    intro l hn
    rcases idx_one c l with ⟨h1, h2⟩ | ⟨a, b, rfl, h2, h3⟩
    · unfold Lib.split
      rw [Lib.count_miss h1, splitL_none h2]; rfl
    · · have hb : b.length ≤ n := by simp at hn; omega
        have ih := ihn b hb
        unfold Lib.split at ih ⊢
        have hc := Lib.count_hit (s := a ++ c :: b) (sub := [c]) (by simp) h3
        have hd : (a ++ c :: b).drop (a.length + [c].length) = b := by simp
        rw [hd] at hc
        rw [hc, splitL_hit h2, Nat.add_comm, Lib.splitK]
        have h4 : ¬ (Lib.index (a ++ c :: b) [c] == -1) = true := by rw [h3, beq_iff_eq]; omega
        rw [if_neg h4, h3, Int.toNat_natCast, hd, ih]
        simp
theorem splitL_join {c : UInt8} (l : List UInt8) : ∀ p ∈ splitL c l, c ∉ p := by
  induction l with
  | nil => intro p hp; simp [splitL] at hp; subst hp; simp
  | cons b l ih =>
    intro p hp
    unfold splitL at hp
    split at hp
    · rcases List.mem_cons.1 hp with rfl | hp
      · simp
      · exact ih p hp
    · rename_i hb
      rcases List.mem_cons.1 hp with rfl | hp
      · have h1 : (splitL c l).headD [] ∈ splitL c l := by
          cases h : splitL c l with
          | nil => exact absurd h (splitL_ne c l)
          | cons x xs => simp
        have := ih _ h1
        intro hm
        rcases List.mem_cons.1 hm with e | e
        · exact hb e.symm
        · exact this e
      · exact ih p (List.mem_of_mem_tail hp)
theorem splitL_count (c : UInt8) (l : List UInt8) : (splitL c l).length ≤ l.length + 1 := by
  induction l with
  | nil => simp [splitL]
  | cons b l ih =>
    have := List.length_pos_iff.2 (splitL_ne c l)
    unfold splitL
    split
    · simp; omega
    · simp; omega
end Go.Proofs.YtgpmlpneffbbbaaDoor
