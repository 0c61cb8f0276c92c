/-
  A number in some bits: program and reference write the same text.
-/
import Derived.Test.YtinlhigpmchiaaaGreatDoorStra
import Derived.Deep.OwnRows
import Derived.Test.YtinlhigpmchiaaaGreatDoorSmall
namespace Go.Proofs.YtinlhigpmchiaaaGreatDoor
set_option linter.unusedSimpArgs false
set_option linter.unusedVariables false
set_option maxRecDepth 20000
open Go.RowKit

def bitOf (n : Int) (k : Nat) : UInt8 := if n / 2 ^ k % 2 = 1 then 49 else 48
/-- the lowest bits of n, the highest one first -/
def numBits (n : Int) : Nat → List UInt8
  | 0 => []
  | k + 1 => bitOf n k :: numBits n k
theorem numBits_length (n : Int) (k : Nat) : (numBits n k).length = k := by
  induction k with
  | zero => rfl
  | succ k ih => simp [numBits, ih]

theorem bitOf_val (n : Int) (k : Nat) : ((bitOf n k).toNat : Int) = 48 + n / 2 ^ k % 2 := by
  unfold bitOf
  split
  · simp; omega
  · simp; omega

set_option maxHeartbeats 1000000 in
theorem l04Number_any (n : Int) (W : Nat) (w : World) (h0 : 0 ≤ n) (h1 : n ≤ 1152921504606846976) (hW : W ≤ 63) :
    Calls Tryz.prog 29 #[.int .i64 n, .int .i64 (W : Int)] w fun e w' => e = .returned (.string ⟨(numBits n W).toArray⟩) ∧ Below w.heap.size w w' := by
  obtain ⟨i0, hi0, hz0, hz1, hz2⟩ := info_parts byte_info
  go_enter Tryz.func29, Tryz.ntmps29
  go_wp2_with fail
  go_loopw [5, 6] (fun v k wr => ∃ (j : Nat) (acc : List UInt8), j ≤ W ∧ k = .int .i64 ((j : Int) - 1) ∧ Hid (acc ++ numBits n j = numBits n W) ∧ wr.ownsRow w.heap.size 5 1 v acc.length (byteRow acc) ∧ Hid (acc.length + j = W) ∧ Below w.heap.size w wr) (fun _ k _ => (intOf k + 1).toNat)
  case atStart => exact ⟨W, [], Nat.le_refl _, rfl, rfl, ⟨rfl, .inr ⟨_, 0, #[], rfl, Nat.le_refl _, heap_alloc_new w _, Nat.le_refl _, by unfold maxLen; omega, rfl, rfl⟩⟩, by simp [Hid], by go_grown⟩
  case round =>
    obtain ⟨j, acc, hj, rfl, hacc, hown, hlen, hB⟩ := hrel
    have hs := hB.size
    rcases j with _ | k
    · have hconv := string_of_row (src := 54) (dst := 9) hown Tryz.underlying54 Tryz.underlying5 Tryz.underlying9
      go_wp2_with fail
      go_ret
      exact ⟨ret_str (by have := hacc.out; simp [numBits] at this; rw [this]), hB⟩
    · have hand := i64_and1
      have hl := hlen.out
      have hq : 0 ≤ n / 2 ^ k % 2 ∧ n / 2 ^ k % 2 ≤ 1 := by omega
      go_wp2_with (at_builtin; refine wpList_append_own _ rfl (.tmp 14) (.tmp 22) _ rfl w.heap.size 5 i0 (.int .u8 0) 1 1 Tryz.underlying54 hi0 hz0 hz1 hz2 rfl (by decide) _ _ _ rfl (hown.alloc _) ⟨wr.heap.size, 0, none⟩ 1 1 [_] rfl rfl (cell_one_new _ _ _) (by simp [Value.oneCell']) (by unfold maxLen; omega) (by omega) (by simp; omega) ?_; intro v' w1 hown' hgrow _)
      go_roundw
      case rel => exact ⟨k, acc ++ [bitOf n k], by omega, rfl, by have := hacc.out; simp only [numBits] at this; simpa [Hid] using this, row_push (bitOf n k) (bitOf_val n k).symm hown', by simp [Hid]; omega, grown_own hB hown _ hgrow hs⟩
      case measure => simp [intOf]

/-- block g is just these cells of type t, none frozen -/
def Blk (w : World) (g : Nat) (t : TypeId) (cs : Array Value) : Prop := w.heap[g]? = some (.cells cs t (0, 0))
theorem Blk.cell {w : World} {g : Nat} {t : TypeId} {cs : Array Value} (h : Blk w g t cs) (i : Nat) : w.cell? ⟨g, i, none⟩ = cs[i]? := cell_of_row w g i cs t (0, 0) h
theorem Blk.frozen {w : World} {g : Nat} {t : TypeId} {cs : Array Value} (h : Blk w g t cs) (i : Nat) : w.frozen? ⟨g, i, none⟩ = false := by
  unfold Blk at h
  simp [World.frozen?, h]
theorem Blk.put {w : World} {g : Nat} {t : TypeId} {cs : Array Value} (h : Blk w g t cs) (i : Nat) (u : Value) : Blk (w.setCell ⟨g, i, none⟩ u) g t (cs.setIfInBounds i u) := by
  unfold Blk at h ⊢
  simp [World.setCell, Array.getElem?_modify, h]

theorem bits_at (n : Int) : ∀ (W k : Nat), k < W → (numBits n W)[k]? = some (bitOf n (W - 1 - k))
  | 0, k, h => by omega
  | W + 1, 0, h => by simp [numBits]
  | W + 1, k + 1, h => by
    have := bits_at n W k (by omega)
    simp only [numBits, List.getElem?_cons_succ, this]
    congr 2
    omega

set_option maxHeartbeats 1000000 in
theorem numberBits_any (n : Int) (W : Nat) (w : World) (h0 : 0 ≤ n) (h1 : n ≤ 1152921504606846976) (hW : W ≤ 63) :
    Calls Tryz.prog 35 #[.int .i64 n, .int .i64 (W : Int)] w fun e w' => e = .returned (.string ⟨(numBits n W).toArray⟩) ∧ Below w.heap.size w w' := by
  have hmk := run_make_row' (P := Tryz.prog) 54 5 (.int .u8 0) 1 Tryz.underlying54 byte_info rfl .i64 .i64 W (by omega) (by omega)
  go_enter Tryz.func35, Tryz.ntmps35
  go_wp2_with fail
  go_loopw [11] (fun i wr => ∃ (k : Nat) (C : Array Value), k ≤ W ∧ i = .int .i64 k ∧ Hid (C.size = W) ∧ Hid (∀ j, j < k → C[j]? = some (.int .u8 ((bitOf n (W - 1 - j)).toNat : Int))) ∧ Blk wr w.heap.size 5 C ∧ Below w.heap.size w wr) (fun i _ => W - (intOf i).toNat)
  case atStart => exact ⟨0, madeCells #[.int .u8 0] W, Nat.zero_le _, rfl, size_madeCells _ _, fun j hj => by omega, heap_alloc_new w _, by go_grown⟩
  case round =>
    obtain ⟨k, C, hk, rfl, hsz, hdone, hblk, hB⟩ := hrel
    by_cases hlt : k < W
    · have hcell := hblk.cell k
      rw [Array.getElem?_eq_getElem (by rw [hsz.out]; exact hlt)] at hcell
      have hfr := hblk.frozen k
      have hand := i64_and1
      have hq : 0 ≤ n / 2 ^ (W - 1 - k) % 2 ∧ n / 2 ^ (W - 1 - k) % 2 ≤ 1 := by omega
      go_wp2_with fail
      go_roundw
      case rel =>
        refine ⟨k + 1, C.setIfInBounds k (.int .u8 (48 + n / 2 ^ (W - 1 - k) % 2)), by omega, by go_num, by simpa [Hid] using hsz.out, ?_, hblk.put _ _, hB.setCell (Nat.le_refl _) _⟩
        intro j hj
        rcases Nat.lt_or_ge j k with hjk | hjk
        · rw [Array.getElem?_setIfInBounds_ne (by omega)]
          exact hdone.out j hjk
        · obtain rfl : j = k := by omega
          rw [Array.getElem?_setIfInBounds_self_of_lt (by rw [hsz.out]; exact hlt), bitOf_val]
      case measure => simp [intOf]; omega
    · obtain rfl : k = W := by omega
      have hl := numBits_length n k
      have hconv := run_convert_bytes_back (P := Tryz.prog) wr 54 9 5 ⟨w.heap.size, 0, none⟩ k (numBits n k) Tryz.underlying54 Tryz.underlying5 Tryz.underlying9 (fun j hj => by
        rw [hl] at hj
        have hb := bits_at n k j hj
        rw [List.getElem?_eq_getElem (by rw [hl]; exact hj)] at hb
        injection hb with hb
        rw [hb, Addr.add_lit, Nat.zero_add, hblk.cell, hdone.out j hj])
      rw [hl] at hconv
      have HL := Lib.hid hl
      clear hl
      go_wp2_with fail
      go_ret
      exact ⟨rfl, hB⟩
end Go.Proofs.YtinlhigpmchiaaaGreatDoor
