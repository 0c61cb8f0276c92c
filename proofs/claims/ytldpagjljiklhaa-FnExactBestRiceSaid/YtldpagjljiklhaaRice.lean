/-
  The Rice code of a number: program and reference write the same bits.
-/
import Derived.Test.YtldpagjljiklhaaUnpack
import Derived.Lib.Repeat
namespace Go.Proofs.Ytldpagjljiklhaa
set_option linter.unusedSimpArgs false
set_option linter.unusedVariables false
open Go.RowKit

def foldI (n : Int) : Int := if n < 0 then -2 * n - 1 else 2 * n
theorem foldI_bd {n : Int} (h : -1000000000 ≤ n ∧ n ≤ 1000000000) : 0 ≤ foldI n ∧ foldI n ≤ 2000000000 := by unfold foldI; split <;> omega
theorem foldedOf_any (n : Int) (w : World) (h : -1000000000 ≤ n ∧ n ≤ 1000000000) :
    Calls Try.prog 33 #[.int .i64 n] w fun e w' => e = .returned (.int .i64 (foldI n)) ∧ w = w' := by
  cases hn : decide (n < 0)
  all_goals go_enter Try.func33, Try.ntmps33
  all_goals go_wp2
  all_goals
    go_ret
    simp at hn
    exact ⟨ret_int (by unfold foldI; split <;> omega), rfl⟩
theorem l04Fold_any (n : Int) (w : World) (h : -1000000000 ≤ n ∧ n ≤ 1000000000) :
    Calls Try.prog 34 #[.int .i64 n] w fun e w' => e = .returned (.int .i64 (foldI n)) ∧ w = w' := by
  cases hn : decide (n < 0)
  all_goals go_enter Try.func34, Try.ntmps34
  all_goals go_wp2
  all_goals
    go_ret
    simp at hn
    exact ⟨ret_int (by unfold foldI; split <;> omega), rfl⟩

/-- the Rice code of u with parameter k -/
def riceU (u : Int) (k : Nat) : List UInt8 :=
  if u / 2 ^ k < 20 then List.replicate (u / 2 ^ k).toNat 49 ++ 48 :: numBits (u % 2 ^ k) k else List.replicate 20 49 ++ numBits u 32
def riceL (n : Int) (k : Nat) : List UInt8 := riceU (foldI n) k
theorem repeat_ones : ∀ c : Nat, Lib.repeatL (⟨#[49]⟩ : ByteArray).data.toList c = List.replicate c 49
  | 0 => rfl
  | c + 1 => by rw [Lib.repeatL, repeat_ones c]; rfl
theorem pow12 {k : Nat} (h : k ≤ 12) : (1 : Int) ≤ 2 ^ k ∧ (2 : Int) ^ k ≤ 4096 := by
  have p1 : 1 ≤ 2 ^ k := Nat.one_le_two_pow
  have p2 : 2 ^ k ≤ 4096 := Nat.pow_le_pow_right (n := 2) (by omega) h
  have e : (2 : Int) ^ k = ((2 ^ k : Nat) : Int) := by simp
  rw [e]
  omega
theorem mask_is {u : Int} {k : Nat} (hk : k ≤ 12) (h0 : 0 ≤ u) (h1 : u ≤ 2000000000) : bits .and .i64 u (2 ^ k - 1) = u % 2 ^ k :=
  bits_mask .i64 62 (by decide) (fun n a b => by rw [IntKind.wrap_i64]; omega) k (by omega) u h0 (by omega)

theorem ones_length (c : Nat) : (Lib.repeatL [49] c).length = c := by
  have := repeat_ones c
  have e : Lib.repeatL [49] c = List.replicate c 49 := this
  rw [e, List.length_replicate]
theorem ones_is (c : Nat) : Lib.repeatL [49] c = List.replicate c 49 := repeat_ones c
theorem ba_append (a b : List UInt8) : (⟨a.toArray⟩ : ByteArray) ++ ⟨b.toArray⟩ = ⟨(a ++ b).toArray⟩ := by
  apply ByteArray.ext
  simp

theorem riceU_big {u : Int} {k : Nat} (h : ¬ u / 2 ^ k < 20) : riceU u k = Lib.repeatL [49] 20 ++ numBits u 32 := by rw [riceU, if_neg h, ones_is]
theorem riceU_small {u : Int} {k : Nat} (h : u / 2 ^ k < 20) : riceU u k = Lib.repeatL [49] (u / 2 ^ k).toNat ++ (48 :: numBits (u % 2 ^ k) k) := by rw [riceU, if_pos h, ones_is]

end Go.Proofs.Ytldpagjljiklhaa
