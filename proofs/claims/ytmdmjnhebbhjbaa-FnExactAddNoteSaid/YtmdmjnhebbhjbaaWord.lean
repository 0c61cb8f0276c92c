/-
  Letters and words: program and reference ask the same of every byte.
-/
import Derived.Test.YtmdmjnhebbhjbaaSmall
namespace Go.Proofs.Ytmdmjnhebbhjbaa
set_option maxRecDepth 20000
set_option linter.unusedSimpArgs false
set_option linter.unusedVariables false
open Go.RowKit

def letB (c : Int) : Bool := decide (97 ≤ c ∧ c ≤ 122)
def digB (c : Int) : Bool := decide (48 ≤ c ∧ c ≤ 57)

theorem isLetter_any (c : Int) (w : World) :
    Calls Try.prog 50 #[.int .u8 c] w fun e w' => e = .returned (.bool (letB c)) ∧ w = w' := by
  by_cases h1 : 97 ≤ c <;> by_cases h2 : c ≤ 122
  all_goals
    go_enter Try.func50, Try.ntmps50
    go_wp2
    go_ret
    exact ⟨ret_bool (by simp [letB, h1, h2]), rfl⟩
theorem l01Small_any (c : Int) (w : World) :
    Calls Try.prog 42 #[.int .u8 c] w fun e w' => e = .returned (.bool (letB c)) ∧ w = w' := by
  by_cases h1 : 97 ≤ c <;> by_cases h2 : c ≤ 122
  all_goals
    go_enter Try.func42, Try.ntmps42
    go_wp2
    go_ret
    exact ⟨ret_bool (by simp [letB, h1, h2]), rfl⟩
theorem l01Digit_any (c : Int) (w : World) :
    Calls Try.prog 43 #[.int .u8 c] w fun e w' => e = .returned (.bool (digB c)) ∧ w = w' := by
  by_cases h1 : 48 ≤ c <;> by_cases h2 : c ≤ 57
  all_goals
    go_enter Try.func43, Try.ntmps43
    go_wp2
    go_ret
    exact ⟨ret_bool (by simp [digB, h1, h2]), rfl⟩

def wordB (l : List UInt8) : Bool := l.all (fun c => letB c.toNat) && inB l.length 1 10
/-- the k first bytes pass, the next one does not -/
theorem all_stop {p : UInt8 → Bool} (s : ByteArray) (k : Nat) (h : k < s.size) (hp : p s[k] = false) : s.data.toList.all p = false := by
  rw [List.all_eq_false]
  exact ⟨s[k], by rw [List.mem_iff_getElem]; exact ⟨k, by simpa using h, rfl⟩, by simp [hp]⟩
theorem all_more {p : UInt8 → Bool} (s : ByteArray) (k : Nat) (h : k < s.size) (hk : (s.data.toList.take k).all p = true) (hp : p s[k] = true) : (s.data.toList.take (k + 1)).all p = true := by
  rw [take_snoc s k h, List.all_append, hk]
  simp [hp]
theorem all_done {p : UInt8 → Bool} (s : ByteArray) (k : Nat) (h : s.size ≤ k) (hk : (s.data.toList.take k).all p = true) : s.data.toList.all p = true := by
  rwa [List.take_of_length_le (by simpa using h)] at hk

end Go.Proofs.Ytmdmjnhebbhjbaa
