/-
  A text of bits: program and reference ask the same.
-/
import Derived.Test.YtmdmjnhebbhjbaaGreatDoorStra
import Derived.Test.YtmdmjnhebbhjbaaGreatDoorShelf
import Derived.Shelf.Strings.SlTrimAscii
namespace Go.Proofs.YtmdmjnhebbhjbaaGreatDoor
set_option linter.unusedSimpArgs false
set_option linter.unusedVariables false
set_option maxRecDepth 20000
open Go.RowKit
open Go.ChangeShapes Go.WideShapes Go.Deep Go.Joins

def isBit (b : UInt8) : Bool := b == 48 || b == 49
def bitsOk (s : ByteArray) : Bool := decide (s.size ≤ 100000) && s.data.toList.all isBit
theorem dropWhile_nil {p : UInt8 → Bool} {l : List UInt8} : l.dropWhile p = [] ↔ l.all p = true := by
  induction l with
  | nil => simp
  | cons x l ih =>
    rw [List.dropWhile_cons, List.all_cons]
    split
    · rename_i h
      rw [h, Bool.true_and]; exact ih
    · rename_i h
      simp [h]
theorem dropWhile_head {p : UInt8 → Bool} {l : List UInt8} (h : ∀ x ∈ l.dropWhile p, p x = true) : l.dropWhile p = [] := by
  induction l with
  | nil => rfl
  | cons x l ih =>
    rw [List.dropWhile_cons] at h ⊢
    split at h
    · rename_i hx
      rw [if_pos hx]; exact ih h
    · rename_i hx
      exact absurd (h x (by simp)) hx
theorem trim01 (l : List UInt8) : Lib.trimS l [48, 49] = [] ↔ l.all isBit = true := by
  have hp : (fun b : UInt8 => ([48, 49] : List UInt8).contains b) = isBit := by
    funext b
    show (b == 48 || (b == 49 || false)) = (b == 48 || b == 49)
    rw [Bool.or_false]
  unfold Lib.trimS Lib.trimLeftS Lib.trimRightS
  rw [hp, dropWhile_nil, List.all_reverse]
  constructor
  · intro h
    have h1 : l.reverse.dropWhile isBit = [] := dropWhile_head fun x hx => List.all_eq_true.1 h x hx
    rw [dropWhile_nil, List.all_reverse] at h1
    exact h1
  · intro h
    have h1 : l.reverse.dropWhile isBit = [] := by rw [dropWhile_nil, List.all_reverse]; exact h
    rw [h1]; rfl
theorem trim01_any (s : ByteArray) (hs : s.size ≤ 1048576) (w : World) :
    Calls Tryz.prog 163 #[.string s, .string ⟨#[48, 49]⟩] w fun e w' => e = .returned (.string (bs (Lib.trimS s.data.toList [48, 49]))) ∧ Below w.heap.size w w' :=
  Any.strings_Trim_laid Tryz.lays160 (by kernel_rfl) s ⟨#[48, 49]⟩ w (by omega) (by decide) (ascii_of_all (by decide))
theorem bs_toList (l : List UInt8) : (bs l).toList = l := by rw [ByteArray.toList_eq, bs_list]
set_option maxHeartbeats 4000000 in
theorem areBits_any (s : ByteArray) (hs : s.size ≤ 1048576) (w : World) :
    Calls Tryz.prog 136 #[.string s] w fun e w' => e = .returned (.bool (bitsOk s)) ∧ Below w.heap.size w w' := by
  by_cases h1 : s.size ≤ 100000
  · obtain ⟨y, hy⟩ : ∃ y, bs (Lib.trimS s.data.toList [48, 49]) = y := ⟨_, rfl⟩
    have hyl : y.toList = Lib.trimS s.data.toList [48, 49] := by rw [← hy, bs_toList]
    have HC := trim01_any s hs w
    rw [hy] at HC
    have hb : Hid (bitsOk s = s.data.toList.all isBit) := by rw [Hid, bitsOk, decide_eq_true h1, Bool.true_and]
    cases h2 : s.data.toList.all isBit
    · have hemp : y.toList.isEmpty = false := by
        rw [List.isEmpty_eq_false_iff, hyl]
        intro e
        rw [(trim01 _).1 e] at h2
        cases h2
      have H2 := Lib.hid h2
      clear h2 hyl hy
      go_enter Tryz.func136, Tryz.ntmps136
      go_wp2_with fail
      refine HC.mono ?_
      rintro e w2 ⟨rfl, hb2⟩
      go_wp2_with fail
      go_ret
      exact ⟨ret_bool (by rw [hb.out, H2.out]), hb2⟩
    · have hemp : y.toList.isEmpty = true := by rw [List.isEmpty_iff, hyl]; exact (trim01 _).2 h2
      have H2 := Lib.hid h2
      clear h2 hyl hy
      go_enter Tryz.func136, Tryz.ntmps136
      go_wp2_with fail
      refine HC.mono ?_
      rintro e w2 ⟨rfl, hb2⟩
      go_wp2_with fail
      go_ret
      exact ⟨ret_bool (by rw [hb.out, H2.out]), hb2⟩
  · have hb : Hid (bitsOk s = false) := by rw [Hid, bitsOk, decide_eq_false h1, Bool.false_and]
    go_enter Tryz.func136, Tryz.ntmps136
    go_wp2_with fail
    go_ret
    exact ⟨ret_bool hb.out.symm, Below.refl _ _⟩
theorem all_take {p : UInt8 → Bool} {l : List UInt8} {k : Nat} (h : k < l.length) (h1 : (l.take k).all p = true) (h2 : p l[k] = true) : (l.take (k + 1)).all p = true := by
  rw [List.take_succ_eq_append_getElem h, List.all_append, h1]
  simp [h2]
theorem bit_cases {b : UInt8} : (isBit b = true ∧ (b = 48 ∨ b = 49)) ∨ (isBit b = false ∧ ¬ b = 48 ∧ ¬ b = 49) := by
  by_cases h : b = 48
  · exact .inl ⟨by simp [isBit, h], .inl h⟩
  · by_cases h2 : b = 49
    · exact .inl ⟨by simp [isBit, h2], .inr h2⟩
    · exact .inr ⟨by simp [isBit, h, h2], h, h2⟩
end Go.Proofs.YtmdmjnhebbhjbaaGreatDoor
