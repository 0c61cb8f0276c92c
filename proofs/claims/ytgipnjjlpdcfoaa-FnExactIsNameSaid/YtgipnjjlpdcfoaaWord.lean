/-
  Letters and words: program and reference ask the same of every byte.
-/
import Derived.Test.YtgipnjjlpdcfoaaSmall
namespace Go.Proofs.Ytgipnjjlpdcfoaa
set_option linter.unusedSimpArgs false
set_option linter.unusedVariables false
open Go.RowKit

def letB (c : Int) : Bool := decide (97 ≤ c ∧ c ≤ 122)
def digB (c : Int) : Bool := decide (48 ≤ c ∧ c ≤ 57)

theorem isLetter_any (c : Int) (w : World) :
    Calls Try.prog 25 #[.int .u8 c] w fun e w' => e = .returned (.bool (letB c)) ∧ w = w' := by
  by_cases h1 : 97 ≤ c <;> by_cases h2 : c ≤ 122
  all_goals
    go_enter Try.func25, Try.ntmps25
    go_wp2
    go_ret
    exact ⟨ret_bool (by simp [letB, h1, h2]), rfl⟩
theorem l01Small_any (c : Int) (w : World) :
    Calls Try.prog 24 #[.int .u8 c] w fun e w' => e = .returned (.bool (letB c)) ∧ w = w' := by
  by_cases h1 : 97 ≤ c <;> by_cases h2 : c ≤ 122
  all_goals
    go_enter Try.func24, Try.ntmps24
    go_wp2
    go_ret
    exact ⟨ret_bool (by simp [letB, h1, h2]), rfl⟩
theorem l01Digit_any (c : Int) (w : World) :
    Calls Try.prog 26 #[.int .u8 c] w fun e w' => e = .returned (.bool (digB c)) ∧ w = w' := by
  by_cases h1 : 48 ≤ c <;> by_cases h2 : c ≤ 57
  all_goals
    go_enter Try.func26, Try.ntmps26
    go_wp2
    go_ret
    exact ⟨ret_bool (by simp [digB, h1, h2]), rfl⟩

def wordB (l : List UInt8) : Bool := l.all (fun c => letB c.toNat) && inB l.length 1 10
/-- the k first bytes pass, the next one does not -/
theorem all_stop {p : UInt8 → Bool} (s : ByteArray) (k : Nat) (h : k < s.size) (hp : p s[k] = false) : s.data.toList.all p = false := by
  rw [List.all_eq_false]
  exact ⟨s[k], by rw [List.mem_iff_getElem]; exact ⟨k, by simpa using h, rfl⟩, by simp [hp]⟩
theorem all_more {p : UInt8 → Bool} (s : ByteArray) (k : Nat) (h : k < s.size) (hk : (s.data.toList.take k).all p = true) (hp : p s[k] = true) : (s.data.toList.take (k + 1)).all p = true := by
  rw [take_snoc s k h, List.all_append, hk]
  simp [hp]
theorem all_done {p : UInt8 → Bool} (s : ByteArray) (k : Nat) (h : s.size ≤ k) (hk : (s.data.toList.take k).all p = true) : s.data.toList.all p = true := by
  rwa [List.take_of_length_le (by simpa using h)] at hk

set_option maxHeartbeats 400000 in
theorem sIsWord (s : ByteArray) (w : World) (hs : s.size ≤ 1048576) :
    Calls Try.prog 16 #[.string s] w fun e w' => e = .returned (.bool (wordB s.data.toList)) ∧ w = w' := by
  go_enter Try.func16, Try.ntmps16
  go_wp2
  go_loop [3] (fun i => ∃ k : Nat, k ≤ s.size ∧ i = .int .i64 k ∧ Hid ((s.data.toList.take k).all (fun c => letB c.toNat) = true)) (fun i => s.size - (intOf i).toNat)
  case atStart => exact ⟨0, Nat.zero_le _, rfl, by simp [Hid]⟩
  case round =>
    obtain ⟨k, hk, rfl, ha⟩ := hrel
    by_cases hlt : k < s.size
    · cases hb : letB s[k].toNat
      · go_wp2_with (go_at_call 24; refine (l01Small_any _ _).mono ?_; rintro e w' ⟨rfl, rfl⟩)
        go_ret
        exact ⟨ret_bool (by rw [wordB, all_stop (p := fun c => letB c.toNat) s k hlt hb]; rfl), rfl⟩
      · go_wp2_with (go_at_call 24; refine (l01Small_any _ _).mono ?_; rintro e w' ⟨rfl, rfl⟩)
        go_round
        case rel => exact ⟨k + 1, by omega, by go_num, all_more (p := fun c => letB c.toNat) s k hlt ha.out hb⟩
        case measure => simp [intOf]; omega
    · go_wp2_with (go_at_call 21; refine (l00In_any _ _ _ _).mono ?_; rintro e w' ⟨rfl, rfl⟩)
      go_ret
      exact ⟨ret_bool (by rw [wordB, all_done (p := fun c => letB c.toNat) s k (by omega) ha.out]; simp), rfl⟩

set_option maxHeartbeats 400000 in
theorem iIsWord (s : ByteArray) (w : World) (hs : s.size ≤ 1048576) :
    Calls Try.prog 17 #[.string s] w fun e w' => e = .returned (.bool (wordB s.data.toList)) ∧ Below w.heap.size w w' := by
  obtain ⟨c, W1, hconv, hb1, hz, hc⟩ := bytes_of w s Try.underlying9 Try.underlying33 Try.underlying5
  go_enter Try.func17, Try.ntmps17
  go_wp2
  go_loop [8] (fun i => ∃ k : Nat, k ≤ s.size ∧ i = .int .i64 k ∧ Hid ((s.data.toList.take k).all (fun c => letB c.toNat) = true)) (fun i => s.size - (intOf i).toNat)
  case atStart => exact ⟨0, Nat.zero_le _, rfl, by simp [Hid]⟩
  case round =>
    obtain ⟨k, hk, rfl, ha⟩ := hrel
    by_cases hlt : k < s.size
    · have hck := hc k hlt
      clear hc
      cases hb : letB s[k].toNat
      · go_wp2_with (go_at_call 25; refine (isLetter_any _ _).mono ?_; rintro e w' ⟨rfl, rfl⟩)
        go_ret
        exact ⟨ret_bool (by rw [wordB, all_stop (p := fun c => letB c.toNat) s k hlt hb]; rfl), hb1⟩
      · go_wp2_with (go_at_call 25; refine (isLetter_any _ _).mono ?_; rintro e w' ⟨rfl, rfl⟩)
        go_round
        case rel => exact ⟨k + 1, by omega, by go_num, all_more (p := fun c => letB c.toNat) s k hlt ha.out hb⟩
        case measure => simp [intOf]; omega
    · clear hc
      by_cases h1 : 1 ≤ s.size <;> by_cases h2 : s.size ≤ 10
      all_goals go_wp2_with fail
      all_goals
        go_ret
        exact ⟨ret_bool (by rw [wordB, all_done (p := fun c => letB c.toNat) s k (by omega) ha.out]; simp [inB, h1, h2]; try omega), hb1⟩

end Go.Proofs.Ytgipnjjlpdcfoaa
