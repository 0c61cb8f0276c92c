/-
  ReadRice: program and reference read the same number, or refuse alike.
-/
import Derived.Test.YtmdmjnhebbhjbaaGreatDoorReadS
import Derived.Test.YtmdmjnhebbhjbaaGreatDoorAreBits
namespace Go.Proofs.YtmdmjnhebbhjbaaGreatDoor
set_option linter.unusedSimpArgs false
set_option linter.unusedVariables false
set_option maxRecDepth 20000
open Go.RowKit
open Go.ChangeShapes Go.WideShapes Go.Deep Go.Joins

theorem areBits_is {s : ByteArray} {b : Bool} (h : Hid (bitsOk s = b)) (hs : s.size ≤ 1048576) (w : World) :
    Calls Tryz.prog 136 #[.string s] w fun e w' => e = .returned (.bool b) ∧ Below w.heap.size w w' := by
  rw [← h.out]; exact areBits_any s hs w
theorem inB_is {n low high : Int} {b : Bool} (h : Hid (inB n low high = b)) (w : World) :
    Calls Tryz.prog 111 #[.int .i64 n, .int .i64 low, .int .i64 high] w fun e w' => e = .returned (.bool b) ∧ w = w' := by
  rw [← h.out]; exact within_any n low high w
theorem inB_isS {n low high : Int} {b : Bool} (h : Hid (inB n low high = b)) (w : World) :
    Calls Tryz.prog 103 #[.int .i64 n, .int .i64 low, .int .i64 high] w fun e w' => e = .returned (.bool b) ∧ w = w' := by
  rw [← h.out]; exact l00In_any n low high w
theorem bitsOk_all {s : ByteArray} (h : bitsOk s = true) : s.data.toList.all isBit = true := by
  rw [bitsOk, Bool.and_eq_true] at h; exact h.2
/-- what ReadRice answers -/
inductive RiceR (s : ByteArray) (at' k : Int) : Int × Int × Int → Prop
  | bad : bitsOk s = false → RiceR s at' k (0, 0, 7)
  | out : bitsOk s = true → (inB k 0 12 = false ∨ inB k 0 12 = true ∧ inB at' 0 (s.size : Int) = false) → RiceR s at' k (0, 0, 2)
  | ok (a kk q : Nat) : bitsOk s = true → at' = (a : Int) → k = (kk : Int) → a ≤ s.size → kk ≤ 12 → OnesAt s a q → RiceR s at' k (riceRd s a kk q)
theorem riceR_exists (s : ByteArray) (at' k : Int) : ∃ R, RiceR s at' k R := by
  cases h : bitsOk s
  · exact ⟨_, .bad h⟩
  · cases hk : inB k 0 12
    · exact ⟨_, .out h (.inl hk)⟩
    · cases ha : inB at' 0 (s.size : Int)
      · exact ⟨_, .out h (.inr ⟨hk, ha⟩)⟩
      · have h1 := inB_true hk
        have h2 := inB_true ha
        obtain ⟨a, e⟩ : ∃ a : Nat, at' = (a : Int) := ⟨at'.toNat, by omega⟩
        obtain ⟨kk, e2⟩ : ∃ kk : Nat, k = (kk : Int) := ⟨k.toNat, by omega⟩
        obtain ⟨q, hq⟩ := ones_exist s a 20 0 (by omega) (by omega) (by omega) (by omega)
        exact ⟨_, .ok a kk q h e e2 (by omega) (by omega) hq⟩
end Go.Proofs.YtmdmjnhebbhjbaaGreatDoor
