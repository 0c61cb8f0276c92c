/-
  A compressed ink read back: the tests ahead of the bits, in plain words.
-/
import Derived.Test.YtinlhigpmchiaaaGreatDoorDcP
import Derived.Test.YtinlhigpmchiaaaGreatDoorInkMka
import Derived.Test.YtinlhigpmchiaaaGreatDoorEncT
namespace Go.Proofs.YtinlhigpmchiaaaGreatDoor
set_option linter.unusedSimpArgs false
set_option linter.unusedVariables false
set_option maxRecDepth 20000
open Go.RowKit
open Go.ChangeShapes Go.WideShapes Go.Deep Go.Joins

theorem ik_no {col : ByteArray → Nat → Nat → Option (List Int × Nat)} {s : ByteArray} (h : numO s 0 8 = none) : ikO col s = none := by unfold ikO; rw [h]
theorem ik_bad {col : ByteArray → Nat → Nat → Option (List Int × Nat)} {s : ByteArray} {v p j : Nat} (h : numO s 0 8 = some (v, p)) (h2 : sksO col s p j = none) (hj : j ≤ v) : ikO col s = none := by unfold ikO; rw [h]; simp only; rw [sks_no h2 hj]
theorem ik_yes {col : ByteArray → Nat → Nat → Option (List Int × Nat)} {s : ByteArray} {v p q : Nat} {P : List (List Pt)} (h : numO s 0 8 = some (v, p)) (h2 : sksO col s p v = some (P, q)) : ikO col s = some P := by unfold ikO; rw [h]; simp only; rw [h2]
theorem decI_short {l : List UInt8} (h : l.length < 5) : decI l = ([], 9) := by unfold decI; rw [if_pos h]
theorem decI_head {l : List UInt8} (h : ¬ l.length < 5) (h1 : ¬ l.take 2 = [73, 75]) : decI l = ([], 8) := by unfold decI; rw [if_neg h, if_pos h1]
theorem decI_sum {l : List UInt8} (h : ¬ l.length < 5) (h1 : l.take 2 = [73, 75]) (h2 : ¬ csum (l.take (l.length - 2)) = sumD l) : decI l = ([], 10) := by unfold decI; rw [if_neg h, if_neg (fun e => e h1), if_pos h2]
theorem decI_long {l : List UInt8} (h : ¬ l.length < 5) (h1 : l.take 2 = [73, 75]) (h2 : csum (l.take (l.length - 2)) = sumD l) (h3 : 12500 < (bodyD l).length) : decI l = ([], 8) := by unfold decI; rw [if_neg h, if_neg (fun e => e h1), if_neg (fun e => e h2), if_pos h3]
theorem decI_say {l : List UInt8} (h : ¬ l.length < 5) (h1 : l.take 2 = [73, 75]) (h2 : csum (l.take (l.length - 2)) = sumD l) (h3 : ¬ 12500 < (bodyD l).length) : decI l = sayD l (ikO colI (bitsD l)) := by unfold decI; rw [if_neg h, if_neg (fun e => e h1), if_neg (fun e => e h2), if_neg h3]
theorem decS_short {l : List UInt8} (h : l.length < 5) : decS l = ([], 9) := by unfold decS; rw [if_pos h]
theorem decS_head {l : List UInt8} (h : ¬ l.length < 5) (h1 : ¬ l.take 2 = [73, 75]) : decS l = ([], 8) := by unfold decS; rw [if_neg h, if_pos h1]
theorem decS_sum {l : List UInt8} (h : ¬ l.length < 5) (h1 : l.take 2 = [73, 75]) (h2 : ¬ csum (l.take (l.length - 2)) = sumD l) : decS l = ([], 10) := by unfold decS; rw [if_neg h, if_neg (fun e => e h1), if_pos h2]
theorem decS_say {l : List UInt8} (h : ¬ l.length < 5) (h1 : l.take 2 = [73, 75]) (h2 : csum (l.take (l.length - 2)) = sumD l) : decS l = sayD l (ikO colS (bitsD l)) := by unfold decS; rw [if_neg h, if_neg (fun e => e h1), if_neg (fun e => e h2)]
theorem prefix_is (l : List UInt8) : Lib.hasPrefix l [73, 75] = decide (l.take 2 = [73, 75]) := by
  unfold Lib.hasPrefix
  rw [Bool.eq_iff_iff, decide_eq_true_eq, List.isPrefixOf_iff_prefix, List.prefix_iff_eq_take]
  exact eq_comm
theorem hasIK {s : ByteArray} {v : Bool} (h : Hid (Lib.hasPrefix s.data.toList [73, 75] = v)) (w : World) :
    Calls Tryz.prog 15 #[.string s, .string ⟨#[73, 75]⟩] w fun e w' => e = .returned (.bool v) ∧ w = w' := by
  refine (Tryz.strings_HasPrefix s ⟨#[73, 75]⟩ w).mono ?_
  rintro e w' ⟨rfl, rfl⟩
  exact ⟨by rw [← h.out], rfl⟩
theorem iUnpack_long (s : ByteArray) (w : World) (h : 12500 < s.size) (hs : s.size ≤ 1048576) :
    Calls Tryz.prog 17 #[.string s] w fun e w' => e = .returned (.tuple #[.string ⟨#[]⟩, .int .i64 2]) ∧ Below w.heap.size w w' := by
  go_enter Tryz.func17, Tryz.ntmps17
  go_wp2_with fail
  go_ret2
  exact ⟨rfl, Below.refl _ _⟩
theorem head_list (s : ByteArray) (n : Nat) : (s.extract 0 n).data.toList = s.data.toList.take n := by rw [ext_list2, List.drop_zero, Nat.sub_zero]
theorem body_list (s : ByteArray) {n : Nat} (h : s.size = n + 2) : (s.extract 2 n).data.toList = bodyD s.data.toList := by
  have hl : s.data.toList.length = s.size := Array.length_toList
  rw [ext_list2]
  unfold bodyD
  rw [List.drop_take, hl, h, Nat.add_sub_cancel]
theorem body_list2 (s : ByteArray) {n : Nat} (h : s.size = n + 2) : ((s.extract 0 n).extract 2 n).data.toList = bodyD s.data.toList := by
  have hl : s.data.toList.length = s.size := Array.length_toList
  rw [ext_list2, head_list]
  unfold bodyD
  rw [hl, h, Nat.add_sub_cancel, List.take_of_length_le]
  rw [List.length_drop, List.length_take]
  exact Nat.sub_le_sub_right (Nat.min_le_left _ _) 2
theorem body_list3 (s : ByteArray) {n : Nat} (h : s.size = n + 2) : ((s.extract 0 n).extract 2 (min n s.size)).data.toList = bodyD s.data.toList := by
  rw [show min n s.size = n by omega]; exact body_list2 s h
theorem body_size (s : ByteArray) {n : Nat} (h : s.size = n + 2) : ((s.extract 0 n).extract 2 (min n s.size)).size = (bodyD s.data.toList).length := by
  rw [← body_list3 s h]; exact Array.length_toList.symm
theorem bits_sz {s : ByteArray} (hs : s.size ≤ 1048576) : (bitsD s.data.toList).size ≤ 8388608 := by
  have hl : s.data.toList.length = s.size := Array.length_toList
  unfold bitsD
  rw [bs_size, unpackL_length, bodyD_len]
  omega
theorem iUnpack_is (s y B : ByteArray) (hy : y.data.toList = bodyD s.data.toList) (hB : bitsD s.data.toList = B) (h : y.size ≤ 12500) (w : World) :
    Calls Tryz.prog 17 #[.string y] w fun e w' => e = .returned (.tuple #[.string B, .int .i64 0]) ∧ Below w.heap.size w w' := by
  refine (iUnpackBits_yes y w h).mono ?_
  rintro e w' ⟨rfl, h2⟩
  exact ⟨by rw [hy, ← hB]; rfl, h2⟩
theorem sUnpack_is (s y B : ByteArray) (hy : y.data.toList = bodyD s.data.toList) (hB : bitsD s.data.toList = B) (h : y.size ≤ 1048576) (w : World) :
    Calls Tryz.prog 10 #[.string y] w fun e w' => e = .returned (.string B) ∧ Below w.heap.size w w' := by
  refine (l04Unpack_any y w h).mono ?_
  rintro e w' ⟨rfl, h2⟩
  exact ⟨by rw [hy, ← hB]; rfl, h2⟩
theorem sum_at (s : ByteArray) {n : Nat} (h : s.size = n + 2) : sumD s.data.toList = ((s[n]'(by omega)).toNat : Int) * 256 + ((s[n + 1]'(by omega)).toNat : Int) := by
  have hl : s.data.toList.length = s.size := Array.length_toList
  unfold sumD
  have h0 : s.data.toList.length - 2 = n := by omega
  have h1 : s.data.toList.length - 1 = n + 1 := by omega
  rw [h0, h1, List.getD_eq_getElem?_getD, List.getD_eq_getElem?_getD, at_list (show n < s.size by omega), at_list (show n + 1 < s.size by omega)]
  rfl
theorem sum_is (s : ByteArray) {n n1 : Nat} (h : s.size = n + 2) (h1 : n + 1 = n1) (a : n < s.size) (b : n1 < s.size) : sumD s.data.toList = (s[n].toNat : Int) * 256 + (s[n1].toNat : Int) := by
  subst h1; exact sum_at s h
theorem enc_eq {P : List (List Pt)} {s y : ByteArray} {b : Bool} (hy : bs (encB P) = y) (h : (encB P == s.data.toList) = b) : (y.toList == s.toList) = b := by
  rw [ByteArray.toList_eq, ByteArray.toList_eq, ← hy, bs_list, h]
theorem InkOwn.upto3 {w : World} {lo hi hi' : Nat} {v : Value} {S : List St} (h : InkOwn w lo hi v S) (hh : hi ≤ hi') : InkOwn w lo hi' v S :=
  ⟨h.row, fun k hk => Nat.lt_of_lt_of_le (h.top k hk) hh, h.inner.mono hh, h.apt⟩
theorem ptsOf_add {T : List St} {t : St} : ptsOf (T ++ [t]) = ptsOf T ++ [t.l] := by simp [ptsOf]
end Go.Proofs.YtinlhigpmchiaaaGreatDoor
