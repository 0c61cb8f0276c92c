/-
  The Rice code of a number: program and reference write the same bits.
-/
import Derived.Test.YtinlhigpmchiaaaGreatDoorUnpack
import Derived.Lib.Repeat
namespace Go.Proofs.YtinlhigpmchiaaaGreatDoor
set_option linter.unusedSimpArgs false
set_option linter.unusedVariables false
set_option maxRecDepth 20000
open Go.RowKit

def foldI (n : Int) : Int := if n < 0 then -2 * n - 1 else 2 * n
theorem foldI_bd {n : Int} (h : -1000000000 ≤ n ∧ n ≤ 1000000000) : 0 ≤ foldI n ∧ foldI n ≤ 2000000000 := by unfold foldI; split <;> omega
theorem foldedOf_any (n : Int) (w : World) (h : -1000000000 ≤ n ∧ n ≤ 1000000000) :
    Calls Tryz.prog 63 #[.int .i64 n] w fun e w' => e = .returned (.int .i64 (foldI n)) ∧ w = w' := by
  cases hn : decide (n < 0)
  all_goals go_enter Tryz.func63, Tryz.ntmps63
  all_goals go_wp2
  all_goals
    go_ret
    simp at hn
    exact ⟨ret_int (by unfold foldI; split <;> omega), rfl⟩
theorem l04Fold_any (n : Int) (w : World) (h : -1000000000 ≤ n ∧ n ≤ 1000000000) :
    Calls Tryz.prog 71 #[.int .i64 n] w fun e w' => e = .returned (.int .i64 (foldI n)) ∧ w = w' := by
  cases hn : decide (n < 0)
  all_goals go_enter Tryz.func71, Tryz.ntmps71
  all_goals go_wp2
  all_goals
    go_ret
    simp at hn
    exact ⟨ret_int (by unfold foldI; split <;> omega), rfl⟩

/-- the Rice code of u with parameter k -/
def riceU (u : Int) (k : Nat) : List UInt8 :=
  if u / 2 ^ k < 20 then List.replicate (u / 2 ^ k).toNat 49 ++ 48 :: numBits (u % 2 ^ k) k else List.replicate 20 49 ++ numBits u 32
def riceL (n : Int) (k : Nat) : List UInt8 := riceU (foldI n) k
theorem repeat_ones : ∀ c : Nat, Lib.repeatL (⟨#[49]⟩ : ByteArray).data.toList c = List.replicate c 49
  | 0 => rfl
  | c + 1 => by rw [Lib.repeatL, repeat_ones c]; rfl
theorem pow12 {k : Nat} (h : k ≤ 12) : (1 : Int) ≤ 2 ^ k ∧ (2 : Int) ^ k ≤ 4096 := by
  have p1 : 1 ≤ 2 ^ k := Nat.one_le_two_pow
  have p2 : 2 ^ k ≤ 4096 := Nat.pow_le_pow_right (n := 2) (by omega) h
  have e : (2 : Int) ^ k = ((2 ^ k : Nat) : Int) := by simp
  rw [e]
  omega
theorem mask_is {u : Int} {k : Nat} (hk : k ≤ 12) (h0 : 0 ≤ u) (h1 : u ≤ 2000000000) : bits .and .i64 u (2 ^ k - 1) = u % 2 ^ k :=
  bits_mask .i64 62 (by decide) (fun n a b => by rw [IntKind.wrap_i64]; omega) k (by omega) u h0 (by omega)

theorem ones_any (q : Int) (w : World) (h0 : 0 ≤ q) (h1 : q ≤ 20) :
    Calls Tryz.prog 64 #[.string ⟨#[49]⟩, .int .i64 q] w fun e w' => e = .returned (.string ⟨(Lib.repeatL [49] q.toNat).toArray⟩) ∧ Below w.heap.size w w' := by
  have e : q = (q.toNat : Int) := by omega
  rw [e]
  refine (Tryz.strings_Repeat ⟨#[49]⟩ q.toNat w (by omega) ?_).mono fun _ _ h => h
  show 1 * q.toNat ≤ _
  omega
theorem ones_length (c : Nat) : (Lib.repeatL [49] c).length = c := by
  have := repeat_ones c
  have e : Lib.repeatL [49] c = List.replicate c 49 := this
  rw [e, List.length_replicate]
theorem ones_is (c : Nat) : Lib.repeatL [49] c = List.replicate c 49 := repeat_ones c
theorem ba_append (a b : List UInt8) : (⟨a.toArray⟩ : ByteArray) ++ ⟨b.toArray⟩ = ⟨(a ++ b).toArray⟩ := by
  apply ByteArray.ext
  simp

theorem riceU_big {u : Int} {k : Nat} (h : ¬ u / 2 ^ k < 20) : riceU u k = Lib.repeatL [49] 20 ++ numBits u 32 := by rw [riceU, if_neg h, ones_is]
theorem riceU_small {u : Int} {k : Nat} (h : u / 2 ^ k < 20) : riceU u k = Lib.repeatL [49] (u / 2 ^ k).toNat ++ (48 :: numBits (u % 2 ^ k) k) := by rw [riceU, if_pos h, ones_is]

set_option maxHeartbeats 2000000 in
theorem riceBits_any (n : Int) (k : Nat) (w : World) (hn : -1000000000 ≤ n ∧ n ≤ 1000000000) (hk : k ≤ 12) :
    Calls Tryz.prog 45 #[.int .i64 n, .int .i64 (k : Int)] w fun e w' => e = .returned (.string ⟨(riceL n k).toArray⟩) ∧ Below w.heap.size w w' := by
  obtain ⟨u, hu⟩ : ∃ u, u = foldI n := ⟨_, rfl⟩
  have hf := foldedOf_any n w hn
  have hbd := foldI_bd hn
  rw [riceL]
  rw [← hu] at hf hbd ⊢
  have HF := Lib.hid hf
  obtain ⟨p1, p2⟩ := pow12 hk
  have hq0 : 0 ≤ u / 2 ^ k := Int.ediv_nonneg (by omega) (by omega)
  have hqu : u / 2 ^ k ≤ u := Int.ediv_le_self _ (by omega)
  have hm0 : 0 ≤ u % 2 ^ k := Int.emod_nonneg _ (by omega)
  have hm1 : u % 2 ^ k < 2 ^ k := Int.emod_lt_of_pos _ (by omega)
  have hmask : bits .and .i64 u (2 ^ k - 1) = u % 2 ^ k := mask_is hk hbd.1 hbd.2
  have l1 : (numBits u 32).length ≤ 32 := by rw [numBits_length]; omega
  have l2 : (numBits (u % 2 ^ k) k).length ≤ 12 := by rw [numBits_length]; omega
  have l3 : (Lib.repeatL [49] 20).length ≤ 20 := by rw [ones_length]; omega
  clear hf hu hn
  cases hq : decide (u / 2 ^ k < 20)
  · have HQ : Hid (riceU u k = Lib.repeatL [49] 20 ++ numBits u 32) := riceU_big (of_decide_eq_false hq)
    go_enter Tryz.func45, Tryz.ntmps45
    go_wp2_with fail
    refine HF.out.mono ?_
    rintro e w' ⟨rfl, rfl⟩
    go_wp2_with fail
    refine (ones_any 20 _ (by omega) (by omega)).mono ?_
    rintro e w1 ⟨rfl, hb1⟩
    go_wp2_with fail
    refine (numberBits_any u 32 _ (by omega) (by omega) (by omega)).mono ?_
    rintro e w2 ⟨rfl, hb2⟩
    go_wp2_with fail
    go_ret
    exact ⟨ret_str (by rw [HQ.out, ba_append]), Below.next hb1 hb2⟩
  · have HQ : Hid (riceU u k = Lib.repeatL [49] (u / 2 ^ k).toNat ++ (48 :: numBits (u % 2 ^ k) k)) := riceU_small (of_decide_eq_true hq)
    have hq20 : u / 2 ^ k ≤ 20 := by simp at hq; omega
    have l4 : (Lib.repeatL [49] (u / 2 ^ k).toNat).length ≤ 20 := by rw [ones_length]; omega
    have hs1 := fun W => run_string_add_sum (P := Tryz.prog) (w := W) ⟨(Lib.repeatL [49] (u / 2 ^ k).toNat).toArray⟩ ⟨#[48]⟩ (by show (Lib.repeatL [49] (u / 2 ^ k).toNat).toArray.size + 1 ≤ _; rw [List.size_toArray]; omega)
    have hs2 := fun W => run_string_add_sum (P := Tryz.prog) (w := W) (⟨(Lib.repeatL [49] (u / 2 ^ k).toNat).toArray⟩ ++ ⟨#[48]⟩) ⟨(numBits (u % 2 ^ k) k).toArray⟩ (by
      rw [ByteArray.size_append]
      show (Lib.repeatL [49] (u / 2 ^ k).toNat).toArray.size + 1 + (numBits (u % 2 ^ k) k).toArray.size ≤ _
      rw [List.size_toArray, List.size_toArray]
      omega)
    have hw1 : IntKind.i64.wrap (2 ^ k) = 2 ^ k := IntWalk.i64_in _ (by omega)
    have hw2 : IntKind.i64.wrap (2 ^ k - 1) = 2 ^ k - 1 := IntWalk.i64_in _ (by omega)
    go_enter Tryz.func45, Tryz.ntmps45
    go_wp2_with fail
    refine HF.out.mono ?_
    rintro e w' ⟨rfl, rfl⟩
    go_wp2_with fail
    go_region_held3 (fun w' => (∀ kb ko, kb < w.heap.size → w'.cell? ⟨kb, ko, none⟩ = w.cell? ⟨kb, ko, none⟩) ∧ w.heap.size ≤ w'.heap.size ∧ Below w.heap.size w w') (first | exact SB.mk hkB | exact SB.mk ((Below.refl _ _).drew) | (go_split_ands; refine SB.mk (Below.drew ?_); assumption) | (refine SB.mk ?_; go_grown; done) | (go_split_ands; refine SB.mk ?_; go_grown; done)) (first | (go_at_call 64; (with_reducible refine (ones_any (u / 2 ^ k) _ hq0 hq20).mono ?_); rintro e w' ⟨rfl, hb⟩; obtain ⟨_, hks, hkB⟩ := SB.next (by assumption) hb; obtain ⟨hkc, hkf⟩ := bcell hb; have hkz := hb.size; (try simp only [World.size_alloc, World.size_drew] at hkz); (first | (have hkt := Nat.lt_of_succ_le hkz) | (have hkt := Nat.lt_of_lt_of_le (by assumption) hkz) | skip); clear hb) | (go_at_call 35; (with_reducible refine (numberBits_any (u % 2 ^ k) k _ hm0 (by omega) (by omega)).mono ?_); rintro e w' ⟨rfl, hb⟩; obtain ⟨_, hks, hkB⟩ := SB.next (by assumption) hb; obtain ⟨hkc, hkf⟩ := bcell hb; have hkz := hb.size; (try simp only [World.size_alloc, World.size_drew] at hkz); (first | (have hkt := Nat.lt_of_succ_le hkz) | (have hkt := Nat.lt_of_lt_of_le (by assumption) hkz) | skip); clear hb))
    go_split_ands
    go_wp2_with fail
    go_ret
    refine ⟨ret_str ?_, hkB⟩
    rw [HQ.out]
    have e : (⟨#[48]⟩ : ByteArray) = ⟨[48].toArray⟩ := rfl
    rw [e, ba_append, ba_append]
    simp
end Go.Proofs.YtinlhigpmchiaaaGreatDoor
