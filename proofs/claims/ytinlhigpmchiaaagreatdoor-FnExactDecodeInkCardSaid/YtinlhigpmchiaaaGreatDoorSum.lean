/-
  The walks of ChecksumOf, program and reference: both return the checksum of the string's bytes.
-/
import Derived.Test.YtinlhigpmchiaaaGreatDoorBase
namespace Go.Proofs.YtinlhigpmchiaaaGreatDoor
set_option linter.unusedSimpArgs false
set_option linter.unusedVariables false
open Go.RowKit

/-- the checksum of bytes -/
def csum (l : List UInt8) : Int := l.foldl (fun a c => (a * 257 + (c.toNat : Int)) % 65521) 1
theorem csum_snoc (l : List UInt8) (c : UInt8) : csum (l ++ [c]) = (csum l * 257 + (c.toNat : Int)) % 65521 := by
  unfold csum; rw [List.foldl_append]; rfl
theorem csum_foldl_bd (l : List UInt8) : ∀ a : Int, 0 ≤ a → a ≤ 65520 → 0 ≤ l.foldl (fun a c => (a * 257 + (c.toNat : Int)) % 65521) a ∧ l.foldl (fun a c => (a * 257 + (c.toNat : Int)) % 65521) a ≤ 65520 := by
  induction l with
  | nil => intro a h0 h1; exact ⟨h0, h1⟩
  | cons c l ih => intro a h0 h1; rw [List.foldl_cons]; exact ih _ (by show 0 ≤ (a * 257 + (c.toNat : Int)) % 65521; omega) (by show (a * 257 + (c.toNat : Int)) % 65521 ≤ 65520; omega)
theorem csum_bd (l : List UInt8) : 0 ≤ csum l ∧ csum l ≤ 65520 := csum_foldl_bd l 1 (by omega) (by omega)

set_option maxHeartbeats 400000 in
theorem l04Sum_any (s : ByteArray) (w : World) (hs : s.size ≤ 1048576) :
    Calls Tryz.prog 9 #[.string s] w fun e w' => e = .returned (.int .i64 (csum s.data.toList)) ∧ w = w' := by
  go_enter Tryz.func9, Tryz.ntmps9
  go_wp2
  go_loop [3, 4] (fun n i => ∃ k : Nat, k ≤ s.size ∧ i = .int .i64 k ∧ n = .int .i64 (csum (s.data.toList.take k))) (fun _ i => s.size - (intOf i).toNat)
  case atStart => exact ⟨0, Nat.zero_le _, rfl, rfl⟩
  case round =>
    obtain ⟨k, hk, rfl, rfl⟩ := hrel
    have hd := csum_bd (s.data.toList.take k)
    by_cases hlt : k < s.size
    · have HS : Hid (csum (s.data.toList.take (k + 1)) = (csum (s.data.toList.take k) * 257 + (s[k].toNat : Int)) % 65521) := by rw [take_snoc s k hlt]; exact csum_snoc _ _
      have hb : s[k].toNat < 256 := s[k].toNat_lt
      go_wp2
      go_round
      case rel => exact ⟨k + 1, by omega, by go_num, by rw [HS.out]⟩
      case measure => simp [intOf]; omega
    · go_wp2
      go_ret
      exact ⟨ret_int (by rw [List.take_of_length_le (by simp; omega)]), rfl⟩

set_option maxHeartbeats 400000 in
theorem iChecksumOf (s : ByteArray) (w : World) (hs : s.size ≤ 1048576) :
    Calls Tryz.prog 16 #[.string s] w fun e w' => e = .returned (.int .i64 (csum s.data.toList)) ∧ Below w.heap.size w w' := by
  obtain ⟨c, W1, hconv, hb, hz, hc⟩ := bytes_of w s Tryz.underlying9 Tryz.underlying54 Tryz.underlying5
  go_enter Tryz.func16, Tryz.ntmps16
  go_wp2
  go_loop [3, 5, 9] (fun n _ i => ∃ k : Nat, k ≤ s.size ∧ i = .int .i64 k ∧ n = .int .i64 (csum (s.data.toList.take k))) (fun _ _ i => s.size - (intOf i).toNat)
  case atStart => exact ⟨0, Nat.zero_le _, rfl, rfl⟩
  case round =>
    obtain ⟨k, hk, rfl, rfl⟩ := hrel
    have hd := csum_bd (s.data.toList.take k)
    by_cases hlt : k < s.size
    · have HS : Hid (csum (s.data.toList.take (k + 1)) = (csum (s.data.toList.take k) * 257 + (s[k].toNat : Int)) % 65521) := by rw [take_snoc s k hlt]; exact csum_snoc _ _
      have hb : s[k].toNat < 256 := s[k].toNat_lt
      have hck := hc k hlt
      clear hc
      go_wp2
      go_round
      case rel => exact ⟨k + 1, by omega, by go_num, by rw [HS.out]⟩
      case measure => simp [intOf]; omega
    · clear hc
      go_wp2
      go_ret
      exact ⟨ret_int (by rw [List.take_of_length_le (by simp; omega)]), hb⟩
end Go.Proofs.YtinlhigpmchiaaaGreatDoor
