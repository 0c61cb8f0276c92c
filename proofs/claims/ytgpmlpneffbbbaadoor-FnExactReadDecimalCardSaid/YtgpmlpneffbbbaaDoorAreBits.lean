/-
  A text of bits: program and reference ask the same.
-/
import Derived.Test.YtgpmlpneffbbbaaDoorStr
import Derived.Test.YtgpmlpneffbbbaaDoorShelf
import Derived.Shelf.Strings.SlTrimAscii
namespace Go.Proofs.YtgpmlpneffbbbaaDoor
set_option linter.unusedSimpArgs false
set_option linter.unusedVariables false
set_option maxRecDepth 20000
open Go.RowKit
open Go.ChangeShapes Go.WideShapes Go.Deep Go.Joins

def isBit (b : UInt8) : Bool := b == 48 || b == 49
def bitsOk (s : ByteArray) : Bool := decide (s.size ≤ 100000) && s.data.toList.all isBit
theorem dropWhile_nil {p : UInt8 → Bool} {l : List UInt8} : l.dropWhile p = [] ↔ l.all p = true := by
  induction l with
  | nil => simp
  | cons x l ih =>
    rw [List.dropWhile_cons, List.all_cons]
    split
    · rename_i h
      rw [h, Bool.true_and]; exact ih
    · rename_i h
      simp [h]
theorem dropWhile_head {p : UInt8 → Bool} {l : List UInt8} (h : ∀ x ∈ l.dropWhile p, p x = true) : l.dropWhile p = [] := by
  induction l with
  | nil => rfl
  | cons x l ih =>
    rw [List.dropWhile_cons] at h ⊢
    split at h
    · rename_i hx
      rw [if_pos hx]; exact ih h
    · rename_i hx
      exact absurd (h x (by simp)) hx
theorem trim01 (l : List UInt8) : Lib.trimS l [48, 49] = [] ↔ l.all isBit = true := by
  have hp : (fun b : UInt8 => ([48, 49] : List UInt8).contains b) = isBit := by
    funext b
    show (b == 48 || (b == 49 || false)) = (b == 48 || b == 49)
    rw [Bool.or_false]
  unfold Lib.trimS Lib.trimLeftS Lib.trimRightS
  rw [hp, dropWhile_nil, List.all_reverse]
  constructor
  · intro h
    have h1 : l.reverse.dropWhile isBit = [] := dropWhile_head fun x hx => List.all_eq_true.1 h x hx
    rw [dropWhile_nil, List.all_reverse] at h1
    exact h1
  · intro h
    have h1 : l.reverse.dropWhile isBit = [] := by rw [dropWhile_nil, List.all_reverse]; exact h
    rw [h1]; rfl
theorem trim01_any (s : ByteArray) (hs : s.size ≤ 1048576) (w : World) :
    Calls Tryd.prog 38 #[.string s, .string ⟨#[48, 49]⟩] w fun e w' => e = .returned (.string (bs (Lib.trimS s.data.toList [48, 49]))) ∧ Below w.heap.size w w' :=
  Any.strings_Trim_laid Tryd.lays160 (by kernel_rfl) s ⟨#[48, 49]⟩ w (by omega) (by decide) (ascii_of_all (by decide))
theorem bs_toList (l : List UInt8) : (bs l).toList = l := by rw [ByteArray.toList_eq, bs_list]
set_option maxHeartbeats 4000000 in
theorem areBits_any (s : ByteArray) (hs : s.size ≤ 1048576) (w : World) :
    Calls Tryd.prog 28 #[.string s] w fun e w' => e = .returned (.bool (bitsOk s)) ∧ Below w.heap.size w w' := by
  by_cases h1 : s.size ≤ 100000
  · obtain ⟨y, hy⟩ : ∃ y, bs (Lib.trimS s.data.toList [48, 49]) = y := ⟨_, rfl⟩
    have hyl : y.toList = Lib.trimS s.data.toList [48, 49] := by rw [← hy, bs_toList]
    have HC := trim01_any s hs w
    rw [hy] at HC
    have hb : Hid (bitsOk s = s.data.toList.all isBit) := by rw [Hid, bitsOk, decide_eq_true h1, Bool.true_and]
    cases h2 : s.data.toList.all isBit
    · have hemp : y.toList.isEmpty = false := by
        rw [List.isEmpty_eq_false_iff, hyl]
        intro e
        rw [(trim01 _).1 e] at h2
        cases h2
      have H2 := Lib.hid h2
      clear h2 hyl hy
      go_enter Tryd.func28, Tryd.ntmps28
      go_wp2_with fail
      refine HC.mono ?_
      rintro e w2 ⟨rfl, hb2⟩
      go_wp2_with fail
      go_ret
      exact ⟨ret_bool (by rw [hb.out, H2.out]), hb2⟩
    · have hemp : y.toList.isEmpty = true := by rw [List.isEmpty_iff, hyl]; exact (trim01 _).2 h2
      have H2 := Lib.hid h2
      clear h2 hyl hy
      go_enter Tryd.func28, Tryd.ntmps28
      go_wp2_with fail
      refine HC.mono ?_
      rintro e w2 ⟨rfl, hb2⟩
      go_wp2_with fail
      go_ret
      exact ⟨ret_bool (by rw [hb.out, H2.out]), hb2⟩
  · have hb : Hid (bitsOk s = false) := by rw [Hid, bitsOk, decide_eq_false h1, Bool.false_and]
    go_enter Tryd.func28, Tryd.ntmps28
    go_wp2_with fail
    go_ret
    exact ⟨ret_bool hb.out.symm, Below.refl _ _⟩
theorem all_take {p : UInt8 → Bool} {l : List UInt8} {k : Nat} (h : k < l.length) (h1 : (l.take k).all p = true) (h2 : p l[k] = true) : (l.take (k + 1)).all p = true := by
  rw [List.take_succ_eq_append_getElem h, List.all_append, h1]
  simp [h2]
theorem bit_cases {b : UInt8} : (isBit b = true ∧ (b = 48 ∨ b = 49)) ∨ (isBit b = false ∧ ¬ b = 48 ∧ ¬ b = 49) := by
  by_cases h : b = 48
  · exact .inl ⟨by simp [isBit, h], .inl h⟩
  · by_cases h2 : b = 49
    · exact .inl ⟨by simp [isBit, h2], .inr h2⟩
    · exact .inr ⟨by simp [isBit, h, h2], h, h2⟩
set_option maxHeartbeats 4000000 in
theorem l04Ok_any (s : ByteArray) (hs : s.size ≤ 1048576) (w : World) :
    Calls Tryd.prog 26 #[.string s] w fun e w' => e = .returned (.bool (bitsOk s)) ∧ w = w' := by
  have hsl : s.data.toList.length = s.size := Array.length_toList
  have HL := Lib.hid hsl
  clear hsl
  go_enter Tryd.func26, Tryd.ntmps26
  go_wp2_with fail
  go_loop [3] (fun i => ∃ k : Nat, k ≤ s.size ∧ i = .int .i64 (k : Int) ∧ Hid ((s.data.toList.take k).all isBit = true)) (fun i => s.size - (intOf i).toNat)
  case atStart => exact ⟨0, Nat.zero_le _, rfl, rfl⟩
  case round =>
    obtain ⟨k, hk, rfl, hall⟩ := hrel
    by_cases hlt : k < s.size
    · have hkl : k < s.data.toList.length := by rw [HL.out]; exact hlt
      rcases bit_cases (b := s[k]) with ⟨h1, h2⟩ | ⟨h1, h2, h3⟩
      · have hnx : Hid ((s.data.toList.take (k + 1)).all isBit = true) := all_take hkl hall.out h1
        rcases h2 with h2 | h2
        · have ev : (s[k].toNat : Int) = 48 := by rw [h2]; rfl
          clear h1 h2
          go_wp2_with fail
          go_round
          case rel => exact ⟨k + 1, by omega, by go_num, hnx⟩
          case measure => (simp [intOf]; try omega)
        · have ev : (s[k].toNat : Int) = 49 := by rw [h2]; rfl
          clear h1 h2
          go_wp2_with fail
          go_round
          case rel => exact ⟨k + 1, by omega, by go_num, hnx⟩
          case measure => (simp [intOf]; try omega)
      · have hno : Hid (bitsOk s = false) := by
          rw [Hid, bitsOk, Bool.and_eq_false_iff]
          right
          rw [List.all_eq_false]
          exact ⟨s[k], List.mem_of_getElem? (i := k) (by rw [List.getElem?_eq_getElem hkl]; rfl), by rw [h1]; simp⟩
        have a0 : ¬ (s[k].toNat : Int) = 48 := fun e => h2 (by apply UInt8.toNat_inj.1; show _ = 48; omega)
        have b0 : ¬ (s[k].toNat : Int) = 49 := fun e => h3 (by apply UInt8.toNat_inj.1; show _ = 49; omega)
        have a2 : ((s[k].toNat : Int) != 48) = true := bne_iff_ne.2 a0
        have b2 : ((s[k].toNat : Int) != 49) = true := bne_iff_ne.2 b0
        clear h1 h2 h3
        go_wp2_with fail
        go_ret
        exact ⟨ret_bool hno.out.symm, rfl⟩
    · obtain rfl : k = s.size := by omega
      have hb : Hid (decide (s.size ≤ 100000) = bitsOk s) := by
        have h1 := hall.out
        rw [List.take_of_length_le (by rw [HL.out]; exact Nat.le_refl _)] at h1
        rw [Hid, bitsOk, h1, Bool.and_true]
      cases h1 : decide (s.size ≤ 100000)
      all_goals
        have H1 := Lib.hid h1
        have h1' := h1
        simp only [decide_eq_true_eq, decide_eq_false_iff_not] at h1'
        go_wp2_with fail
        go_ret
        exact ⟨ret_bool (by rw [← hb.out]; simp; try omega), rfl⟩
end Go.Proofs.YtgpmlpneffbbbaaDoor
