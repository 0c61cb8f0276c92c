/-
  Bytes as bits: program and reference write the same text.
-/
import Derived.Test.YtinlhigpmchiaaaGreatDoorBuilder
import Derived.Test.YtinlhigpmchiaaaGreatDoorBits
import Derived.Laws.BitsAllLaws
namespace Go.Proofs.YtinlhigpmchiaaaGreatDoor
set_option linter.unusedSimpArgs false
set_option linter.unusedVariables false
set_option maxRecDepth 20000
open Go.RowKit

def unpackL (l : List UInt8) : List UInt8 := l.flatMap fun x => numBits (x.toNat : Int) 8
theorem unpackL_append (l m : List UInt8) : unpackL (l ++ m) = unpackL l ++ unpackL m := by simp [unpackL]
theorem unpackL_length (l : List UInt8) : (unpackL l).length = 8 * l.length := by
  induction l with
  | nil => rfl
  | cons x l ih =>
    have e : unpackL (x :: l) = numBits (x.toNat : Int) 8 ++ unpackL l := by simp [unpackL]
    rw [e, List.length_append, numBits_length, ih]
    simp
    omega
theorem unpack_snoc (s : ByteArray) (k : Nat) (h : k < s.size) : unpackL (s.data.toList.take (k + 1)) = unpackL (s.data.toList.take k) ++ numBits (s[k].toNat : Int) 8 := by
  rw [take_snoc s k h, unpackL_append]
  congr 1
theorem u8_and1 (n : Int) (h0 : 0 ≤ n) (h1 : n < 256) : bits .and .u8 n 1 = n % 2 := by
  have e : ((n.toNat &&& 1 : Nat) : Int) = n % 2 := by
    rw [Nat.and_one_is_mod]
    omega
  rw [u8_and n 1 h0 h1 (by omega) (by omega)]
  exact e

set_option maxHeartbeats 2000000 in
theorem iUnpackBits_yes (s : ByteArray) (w : World) (hs : s.size ≤ 12500) :
    Calls Tryz.prog 17 #[.string s] w fun e w' => e = .returned (.tuple #[.string ⟨(unpackL s.data.toList).toArray⟩, .int .i64 0]) ∧ Below w.heap.size w w' := by
  obtain ⟨c, W1, hconv, hb1, hz1, hc⟩ := bytes_of (w.alloc (.cells #[.pointer none, .slice none 0 0] 67)) s Tryz.underlying9 Tryz.underlying54 Tryz.underlying5
  have hsz : (w.alloc (.cells #[.pointer none, .slice none 0 0] 67)).heap.size = w.heap.size + 1 := by simp
  rw [hsz] at hb1 hz1
  have HC := Lib.hid hc
  clear hc
  have hbld : Bld W1 w.heap.size W1.heap.size [] := (Bld.fresh w W1.heap.size).keep hb1 (by omega) (by omega)
  have HB0 : Below w.heap.size w W1 := ((Below.refl _ _).alloc (Nat.le_refl _) _).trans (hb1.mono (by omega))
  clear hsz
  go_enter Tryz.func17, Tryz.ntmps17
  go_wp2_with fail
  go_loopw [6, 13, 20] (fun _ i _ wr => ∃ k : Nat, k ≤ s.size ∧ i = .int .i64 k ∧ Bld wr w.heap.size W1.heap.size (unpackL (s.data.toList.take k)) ∧ Apart w.heap.size W1.heap.size W1 wr) (fun _ i _ _ => s.size - (intOf i).toNat)
  case atStart => exact ⟨0, Nat.zero_le _, rfl, hbld, Apart.refl _ _ _⟩
  case round =>
    obtain ⟨k, hk, rfl, hbk, hA⟩ := hrel
    have hza := hA.size
    by_cases hlt : k < s.size
    · have hck : wr.cell? ⟨w.heap.size + 1, k, none⟩ = some (.int .u8 (s[k].toNat : Int)) := by
        rw [hA.cell (by omega) (by omega)]
        have := HC.out k hlt
        simpa using this
      have hx : s[k].toNat < 256 := s[k].toNat_lt
      have hl : Hid ((unpackL (s.data.toList.take k)).length = 8 * k) := by
        rw [Hid, unpackL_length, List.length_take]
        simp
        omega
      go_wp2_with fail
      refine (numberBits_any _ 8 _ (by omega) (by omega) (by omega)).mono ?_
      rintro e w2 ⟨rfl, hb2⟩
      have hz2 := hb2.size
      go_wp2_with fail
      refine (writeString_any w.heap.size W1.heap.size _ _ _ (hbk.keep hb2 (by omega) (Nat.le_refl _)) (by omega) (by omega) ?_).mono ?_
      · rw [hl.out]
        have : (ByteArray.mk (numBits (s[k].toNat : Int) 8).toArray).size = 8 := by
          show (numBits (s[k].toNat : Int) 8).toArray.size = 8
          rw [List.size_toArray, numBits_length]
        rw [this]
        omega
      · rintro e w3 ⟨rfl, hbk3, hA3⟩
        go_wp2_with fail
        go_roundw
        case rel => exact ⟨k + 1, by omega, by go_num, by rw [unpack_snoc s k hlt]; exact hbk3, (hA.trans (Apart.of_below (hb2.mono (by omega)))).trans hA3⟩
        case measure => simp [intOf]; omega
    · have hd : s.data.toList.take k = s.data.toList := List.take_of_length_le (by simp; omega)
      rw [hd] at hbk
      go_wp2_with fail
      refine (Tryz.Builder_String_any w.heap.size w.heap.size _ _ (hbk.is (Nat.le_refl _) (by omega)) (by omega)).mono ?_
      rintro e w2 ⟨rfl, hb2⟩
      go_wp2_with fail
      go_ret2
      exact ⟨rfl, (HB0.trans (hA.below (Nat.le_refl _) (by omega))).trans hb2⟩

set_option maxHeartbeats 2000000 in
theorem l04Unpack_any (s : ByteArray) (w : World) (hs : s.size ≤ 1048576) :
    Calls Tryz.prog 10 #[.string s] w fun e w' => e = .returned (.string ⟨(unpackL s.data.toList).toArray⟩) ∧ Below w.heap.size w w' := by
  obtain ⟨i0, hi0, hz0, hz1, hz2⟩ := info_parts byte_info
  go_enter Tryz.func10, Tryz.ntmps10
  go_wp2_with fail
  go_loopw [3, 4, 5] (fun v i _ wr => ∃ k : Nat, k ≤ s.size ∧ i = .int .i64 k ∧ wr.ownsRow w.heap.size 5 1 v (unpackL (s.data.toList.take k)).length (byteRow (unpackL (s.data.toList.take k))) ∧ Below w.heap.size w wr) (fun _ i _ _ => s.size - (intOf i).toNat)
  case atStart => exact ⟨0, Nat.zero_le _, rfl, ⟨rfl, .inr ⟨_, 0, #[], rfl, Nat.le_refl _, heap_alloc_new w _, Nat.le_refl _, by unfold maxLen; omega, rfl, rfl⟩⟩, by go_grown⟩
  case round =>
    obtain ⟨k, hk, rfl, hown, hB⟩ := hrel
    by_cases hlt : k < s.size
    · have hx : s[k].toNat < 256 := s[k].toNat_lt
      have hl : Hid ((unpackL (s.data.toList.take k)).length = 8 * k) := by
        rw [Hid, unpackL_length, List.length_take]
        simp
        omega
      obtain ⟨wo, rfl⟩ : ∃ wo : World, wo = wr := ⟨_, rfl⟩
      go_wp2_with fail
      go_loopw [3, 5] (fun v i wr => ∃ (j : Nat) (acc : List UInt8), j ≤ 8 ∧ i = .int .i64 ((j : Int) - 1) ∧ Hid (acc ++ numBits (s[k].toNat : Int) j = unpackL (s.data.toList.take k) ++ numBits (s[k].toNat : Int) 8) ∧ wr.ownsRow w.heap.size 5 1 v acc.length (byteRow acc) ∧ Hid (acc.length + j = 8 * k + 8) ∧ Below w.heap.size w wr) (fun _ i _ => (intOf i + 1).toNat)
      case atStart => exact ⟨8, _, by omega, rfl, rfl, hown, by rw [Hid, hl.out], hB⟩
      case round =>
        obtain ⟨j, acc, hj, rfl, hacc, hown2, hlen, hB2⟩ := hrel
        have hs2 := hB2.size
        rcases j with _ | j
        · have ha : acc = unpackL (s.data.toList.take (k + 1)) := by
            rw [unpack_snoc s k hlt]
            have := hacc.out
            simpa [numBits] using this
          subst ha
          go_wp2_with fail
          go_roundw
          case rel => exact ⟨k + 1, by omega, by go_num, hown2, hB2⟩
          case measure => simp [intOf]; omega
        · have hand := u8_and1
          have hl2 := hlen.out
          have hdv : (s[k].toNat : Int) / 2 ^ j ≤ (s[k].toNat : Int) := Int.ediv_le_self _ (by omega)
          have hdp : (0 : Int) ≤ (s[k].toNat : Int) / 2 ^ j := Int.ediv_nonneg (by omega) (Int.pow_nonneg (by omega))
          go_wp2_with (at_builtin; refine wpList_append_own _ rfl (.tmp 17) (.tmp 26) _ rfl w.heap.size 5 i0 (.int .u8 0) 1 1 Tryz.underlying54 hi0 hz0 hz1 hz2 rfl (by decide) _ _ _ rfl (hown2.alloc _) ⟨wr.heap.size, 0, none⟩ 1 1 [_] rfl rfl (cell_one_new _ _ _) (by simp [Value.oneCell']) (by unfold maxLen; omega) (by omega) (by simp; omega) ?_; intro v' w1 hown' hgrow _)
          have hX : (48 + bits BinOp.and IntKind.u8 ((s[k].toNat : Int) / 2 ^ j) 1) % 256 = ((bitOf (s[k].toNat : Int) j).toNat : Int) := by
            rw [u8_and1 _ hdp (by omega), bitOf_val]
            omega
          have HX := Lib.hid hX
          clear hX
          go_roundw
          case rel => exact ⟨j, acc ++ [bitOf (s[k].toNat : Int) j], by omega, rfl, by have := hacc.out; simp only [numBits] at this; simpa [Hid, numBits] using this, row_push _ HX.out hown', by simp [Hid]; omega, grown_own hB2 hown2 _ hgrow hs2⟩
          case measure => simp [intOf]
    · have hd : s.data.toList.take k = s.data.toList := List.take_of_length_le (by simp; omega)
      rw [hd] at hown
      have hconv := string_of_row (src := 54) (dst := 9) hown Tryz.underlying54 Tryz.underlying5 Tryz.underlying9
      go_wp2_with fail
      go_ret
      exact ⟨rfl, hB⟩
end Go.Proofs.YtinlhigpmchiaaaGreatDoor
