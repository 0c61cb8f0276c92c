/-
  The number whose Rice code begins at an index: program and reference read the same.
-/
import Derived.Test.YtigingjpdlfanaaDoorRicePlain
import Derived.Test.YtigingjpdlfanaaDoorSmall
namespace Go.Proofs.YtigingjpdlfanaaDoor
set_option linter.unusedSimpArgs false
set_option linter.unusedVariables false
set_option maxRecDepth 20000
open Go.RowKit
open Go.ChangeShapes Go.WideShapes Go.Deep Go.Joins

def resI (n : Int) : Bool := inB n (-1000000000) 1000000000
def valAt (s : ByteArray) (f m : Nat) : Nat := valB ((s.data.toList.drop f).take m)
theorem all_drop {p : UInt8 → Bool} {l : List UInt8} (f m : Nat) (h : l.all p = true) : ((l.drop f).take m).all p = true :=
  List.all_eq_true.2 fun x hx => List.all_eq_true.1 h x (List.mem_of_mem_drop (List.mem_of_mem_take hx))
theorem ext_list2 (s : ByteArray) (f t : Nat) : (s.extract f t).data.toList = (s.data.toList.drop f).take (t - f) := by
  rw [ByteArray.data_extract, Array.toList_extract] <;> rfl
theorem ext_end (s : ByteArray) (f : Nat) : (s.extract f s.size).data.toList = s.data.toList.drop f := by
  rw [ext_list2]
  apply List.take_of_length_le
  rw [List.length_drop]
  exact Nat.le_refl _
theorem valAt_bd (s : ByteArray) (f m : Nat) (hall : s.data.toList.all isBit = true) : valAt s f m < 2 ^ m := by
  have h1 := valB_bd (all_drop f m hall)
  have h2 : ((s.data.toList.drop f).take m).length ≤ m := List.length_take_le _ _
  have h3 := Nat.pow_le_pow_right (n := 2) (by omega) h2
  unfold valAt; omega
/-- what a Rice code reads as: the number, the index behind it, a code -/
def riceRd (s : ByteArray) (a k q : Nat) : Int × Int × Int :=
  if q = 20 then
    if s.size < a + q + 32 then (0, 0, 9)
    else if valAt s (a + q) 32 / 2 ^ k < 20 ∨ resI (unfI (valAt s (a + q) 32)) = false then (0, 0, 8)
    else (unfI (valAt s (a + q) 32), ((a + q + 32 : Nat) : Int), 0)
  else if s.size < a + q + 1 + k then (0, 0, 9)
  else (unfI (q * 2 ^ k + valAt s (a + q + 1) k), ((a + q + 1 + k : Nat) : Int), 0)
def ret3 (r : Int × Int × Int) : Ending := .returned (.tuple #[.int .i64 r.1, .int .i64 r.2.1, .int .i64 r.2.2])
theorem ret3_is {s : ByteArray} {a k q : Nat} {x y z : Int} (h : riceRd s a k q = (x, y, z)) : Ending.returned (.tuple #[.int .i64 x, .int .i64 y, .int .i64 z]) = ret3 (riceRd s a k q) := by rw [h]; rfl
theorem rd_long_cut {s : ByteArray} {a k q : Nat} (hq : q = 20) (h : s.size < a + q + 32) : riceRd s a k q = (0, 0, 9) := by rw [riceRd, if_pos hq, if_pos h]
theorem rd_long_bad {s : ByteArray} {a k q : Nat} (hq : q = 20) (h : ¬ s.size < a + q + 32) (h2 : valAt s (a + q) 32 / 2 ^ k < 20 ∨ resI (unfI (valAt s (a + q) 32)) = false) : riceRd s a k q = (0, 0, 8) := by rw [riceRd, if_pos hq, if_neg h, if_pos h2]
theorem rd_long {s : ByteArray} {a k q : Nat} (hq : q = 20) (h : ¬ s.size < a + q + 32) (h2 : ¬ (valAt s (a + q) 32 / 2 ^ k < 20 ∨ resI (unfI (valAt s (a + q) 32)) = false)) : riceRd s a k q = (unfI (valAt s (a + q) 32), ((a + q + 32 : Nat) : Int), 0) := by rw [riceRd, if_pos hq, if_neg h, if_neg h2]
theorem rd_cut {s : ByteArray} {a k q : Nat} (hq : ¬ q = 20) (h : s.size < a + q + 1 + k) : riceRd s a k q = (0, 0, 9) := by rw [riceRd, if_neg hq, if_pos h]
theorem rd_short {s : ByteArray} {a k q : Nat} (hq : ¬ q = 20) (h : ¬ s.size < a + q + 1 + k) : riceRd s a k q = (unfI (q * 2 ^ k + valAt s (a + q + 1) k), ((a + q + 1 + k : Nat) : Int), 0) := by rw [riceRd, if_neg hq, if_neg h]
theorem pow12n {k : Nat} (h : k ≤ 12) : 1 ≤ 2 ^ k ∧ 2 ^ k ≤ 4096 := ⟨Nat.one_le_two_pow, Nat.pow_le_pow_right (n := 2) (by omega) h⟩
theorem cast_div (v k : Nat) : (v : Int) / 2 ^ k = ((v / 2 ^ k : Nat) : Int) := by simp
theorem cast_mul (q k : Nat) : (q : Int) * 2 ^ k = ((q * 2 ^ k : Nat) : Int) := by simp
end Go.Proofs.YtigingjpdlfanaaDoor
