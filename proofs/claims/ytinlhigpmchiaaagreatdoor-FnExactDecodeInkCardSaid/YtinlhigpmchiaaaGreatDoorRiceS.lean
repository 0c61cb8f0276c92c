/-
  The Rice code of a number, as the reference writes it.
-/
import Derived.Test.YtinlhigpmchiaaaGreatDoorRice
namespace Go.Proofs.YtinlhigpmchiaaaGreatDoor
set_option linter.unusedSimpArgs false
set_option linter.unusedVariables false
set_option maxRecDepth 20000
open Go.RowKit

theorem ones_snoc (c : Nat) : Lib.repeatL [49] c ++ [49] = Lib.repeatL [49] (c + 1) := by
  rw [ones_is, ones_is, List.replicate_succ']

set_option maxHeartbeats 4000000 in
theorem l04Rice_any (n : Int) (k : Nat) (w : World) (hn : -1000000000 ≤ n ∧ n ≤ 1000000000) (hk : k ≤ 12) :
    Calls Tryz.prog 56 #[.int .i64 n, .int .i64 (k : Int)] w fun e w' => e = .returned (.string ⟨(riceL n k).toArray⟩) ∧ Below w.heap.size w w' := by
  obtain ⟨i0, hi0, hz0, hz1, hz2⟩ := info_parts byte_info
  obtain ⟨u, hu⟩ : ∃ u, u = foldI n := ⟨_, rfl⟩
  have hf := l04Fold_any n w hn
  have hbd := foldI_bd hn
  rw [riceL]
  rw [← hu] at hf hbd ⊢
  have HF := Lib.hid hf
  obtain ⟨p1, p2⟩ := pow12 hk
  have hq0 : 0 ≤ u / 2 ^ k := Int.ediv_nonneg (by omega) (by omega)
  have hqu : u / 2 ^ k ≤ u := Int.ediv_le_self _ (by omega)
  have hm0 : 0 ≤ u % 2 ^ k := Int.emod_nonneg _ (by omega)
  have hm1 : u % 2 ^ k < 2 ^ k := Int.emod_lt_of_pos _ (by omega)
  have hdm : u - u / 2 ^ k * 2 ^ k = u % 2 ^ k := by
    have := Int.emod_add_mul_ediv u (2 ^ k)
    rw [Int.mul_comm] at this
    omega
  have hd1 : 0 ≤ u / 2 ^ k * 2 ^ k := Int.mul_nonneg hq0 (by omega)
  have hd2 : u / 2 ^ k * 2 ^ k ≤ u := by omega
  have l1 : (numBits u 32).length ≤ 32 := by rw [numBits_length]; omega
  have l2 : (numBits (u % 2 ^ k) k).length ≤ 12 := by rw [numBits_length]; omega
  have l3 : (Lib.repeatL [49] 20).length ≤ 20 := by rw [ones_length]; omega
  have HD := Lib.hid hdm
  clear hf hu hn hdm
  go_enter Tryz.func56, Tryz.ntmps56
  go_wp2_with fail
  refine HF.out.mono ?_
  rintro e w' ⟨rfl, rfl⟩
  go_wp2_with fail
  go_loopw [7, 8] (fun v i wr => ∃ c : Nat, c ≤ 20 ∧ (c : Int) ≤ u / 2 ^ k ∧ i = .int .i64 c ∧ wr.ownsRow w.heap.size 5 1 v (Lib.repeatL [49] c).length (byteRow (Lib.repeatL [49] c)) ∧ Below w.heap.size w wr) (fun _ i _ => 20 - (intOf i).toNat)
  case atStart => exact ⟨0, by omega, by omega, rfl, ⟨rfl, .inr ⟨_, 0, #[], rfl, Nat.le_refl _, heap_alloc_new w _, Nat.le_refl _, by unfold maxLen; omega, rfl, rfl⟩⟩, by go_grown⟩
  case round =>
    obtain ⟨c, hc, hcq, rfl, hown, hB⟩ := hrel
    have hs := hB.size
    have hcl : (Lib.repeatL [49] c).length ≤ 20 := by rw [ones_length]; exact hc
    by_cases h1 : (c : Int) < u / 2 ^ k
    · by_cases h2 : c < 20
      · go_wp2_with (at_builtin; refine wpList_append_own _ rfl (.tmp 25) (.tmp 26) _ rfl w.heap.size 5 i0 (.int .u8 0) 1 1 Tryz.underlying54 hi0 hz0 hz1 hz2 rfl (by decide) _ _ _ rfl (hown.alloc _) ⟨wr.heap.size, 0, none⟩ 1 1 [_] rfl rfl (cell_one_new _ _ _) (by simp [Value.oneCell']) (by unfold maxLen; omega) (by omega) (by simp; omega) ?_; intro v' w1 hown' hgrow _)
        have hp := row_push (l := Lib.repeatL [49] c) 49 rfl hown'
        rw [ones_snoc] at hp
        go_roundw
        case rel => exact ⟨c + 1, by omega, by omega, by go_num, hp, grown_own hB hown _ hgrow hs⟩
        case measure => simp [intOf]; omega
      · obtain rfl : c = 20 := by omega
        have HQ : Hid (riceU u k = Lib.repeatL [49] 20 ++ numBits u 32) := riceU_big (by omega)
        have hq20 : 20 ≤ u / 2 ^ k := by omega
        have hs1 := fun W => run_string_add_sum (P := Tryz.prog) (w := W) ⟨(Lib.repeatL [49] 20).toArray⟩ ⟨(numBits u 32).toArray⟩ (by
          show (Lib.repeatL [49] 20).toArray.size + (numBits u 32).toArray.size ≤ _
          rw [List.size_toArray, List.size_toArray]
          omega)
        go_wp2_with fail
        go_region_held3 (fun w' => (convert 54 9 u7).run Tryz.prog w' = .ok (.string ⟨(Lib.repeatL [49] 20).toArray⟩) w' ∧ w'.ownsRow w.heap.size 5 1 u7 (Lib.repeatL [49] 20).length (byteRow (Lib.repeatL [49] 20)) ∧ Below w.heap.size w w') (first | exact SR.mk Tryz.underlying54 Tryz.underlying5 Tryz.underlying9 hkO hkB | exact SR.mk (w' := wr.drew) Tryz.underlying54 Tryz.underlying5 Tryz.underlying9 hown hB.drew) (first | (go_at_call 29; refine (l04Number_any u 32 _ hbd.1 (by omega) (by omega)).mono ?_; rintro e w' ⟨rfl, hb⟩; obtain ⟨hkO, hkB⟩ := SR.next (by assumption) hb; clear hb))
        go_split_ands
        go_wp2_with fail
        go_ret
        exact ⟨ret_str (by rw [HQ.out, ba_append]), hkB⟩
    · have hcq' : (c : Int) = u / 2 ^ k := by omega
      by_cases h3 : c = 20
      · subst h3
        have HQ : Hid (riceU u k = Lib.repeatL [49] 20 ++ numBits u 32) := riceU_big (by omega)
        have hq20 : 20 ≤ u / 2 ^ k := by omega
        have hq21 : u / 2 ^ k ≤ 20 := by omega
        have hs1 := fun W => run_string_add_sum (P := Tryz.prog) (w := W) ⟨(Lib.repeatL [49] 20).toArray⟩ ⟨(numBits u 32).toArray⟩ (by
          show (Lib.repeatL [49] 20).toArray.size + (numBits u 32).toArray.size ≤ _
          rw [List.size_toArray, List.size_toArray]
          omega)
        clear hcq'
        go_wp2_with fail
        go_region_held3 (fun w' => (convert 54 9 u7).run Tryz.prog w' = .ok (.string ⟨(Lib.repeatL [49] 20).toArray⟩) w' ∧ w'.ownsRow w.heap.size 5 1 u7 (Lib.repeatL [49] 20).length (byteRow (Lib.repeatL [49] 20)) ∧ Below w.heap.size w w') (first | exact SR.mk Tryz.underlying54 Tryz.underlying5 Tryz.underlying9 hkO hkB | exact SR.mk (w' := wr.drew) Tryz.underlying54 Tryz.underlying5 Tryz.underlying9 hown hB.drew) (first | (go_at_call 29; refine (l04Number_any u 32 _ hbd.1 (by omega) (by omega)).mono ?_; rintro e w' ⟨rfl, hb⟩; obtain ⟨hkO, hkB⟩ := SR.next (by assumption) hb; clear hb))
        go_split_ands
        go_wp2_with fail
        go_ret
        exact ⟨ret_str (by rw [HQ.out, ba_append]), hkB⟩
      · have hq19 : u / 2 ^ k < 20 := by omega
        have hqc : (u / 2 ^ k).toNat = c := by omega
        have HQ : Hid (riceU u k = Lib.repeatL [49] c ++ (48 :: numBits (u % 2 ^ k) k)) := by
          have := riceU_small hq19
          rw [hqc] at this
          exact this
        have hqge : u / 2 ^ k ≤ (c : Int) := by omega
        clear hqc hcq' h3
        have hs1 := fun W => run_string_add_sum (P := Tryz.prog) (w := W) ⟨(Lib.repeatL [49] c).toArray⟩ ⟨#[48]⟩ (by show (Lib.repeatL [49] c).toArray.size + 1 ≤ _; rw [List.size_toArray]; omega)
        have hs2 := fun W => run_string_add_sum (P := Tryz.prog) (w := W) (⟨(Lib.repeatL [49] c).toArray⟩ ++ ⟨#[48]⟩) ⟨(numBits (u % 2 ^ k) k).toArray⟩ (by
          rw [ByteArray.size_append]
          show (Lib.repeatL [49] c).toArray.size + 1 + (numBits (u % 2 ^ k) k).toArray.size ≤ _
          rw [List.size_toArray, List.size_toArray]
          omega)
        have hw0 : IntKind.u64.wrap (k : Int) = k := IntWalk.u64_in _ (by omega)
        have hmin : min k 64 = k := by omega
        have hw1 : IntKind.i64.wrap (u / 2 ^ k * 2 ^ k) = u / 2 ^ k * 2 ^ k := IntWalk.i64_in _ (by omega)
        have hw2 : IntKind.i64.wrap (u - u / 2 ^ k * 2 ^ k) = u % 2 ^ k := by rw [HD.out]; exact IntWalk.i64_in _ (by omega)
        go_wp2_with fail
        go_region_held3 (fun w' => (convert 54 9 u7).run Tryz.prog w' = .ok (.string ⟨(Lib.repeatL [49] c).toArray⟩) w' ∧ w'.ownsRow w.heap.size 5 1 u7 (Lib.repeatL [49] c).length (byteRow (Lib.repeatL [49] c)) ∧ Below w.heap.size w w') (first | exact SR.mk Tryz.underlying54 Tryz.underlying5 Tryz.underlying9 hkO hkB | exact SR.mk (w' := wr.drew) Tryz.underlying54 Tryz.underlying5 Tryz.underlying9 hown hB.drew) (first | (go_at_call 29; (with_reducible refine (l04Number_any (u % 2 ^ k) k _ hm0 (by omega) (by omega)).mono ?_); rintro e w' ⟨rfl, hb⟩; obtain ⟨hkO, hkB⟩ := SR.next (by assumption) hb; clear hb))
        go_split_ands
        go_wp2_with fail
        go_ret
        refine ⟨ret_str ?_, hkB⟩
        rw [HQ.out]
        have e : (⟨#[48]⟩ : ByteArray) = ⟨[48].toArray⟩ := rfl
        rw [e, ba_append, ba_append]
        simp
end Go.Proofs.YtinlhigpmchiaaaGreatDoor
