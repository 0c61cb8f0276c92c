/-
  The compressed form of an ink, in plain words; how long its bits are.
-/
import Derived.Test.YtinlhigpmchiaaaGreatDoorBestRice
import Derived.Test.YtinlhigpmchiaaaGreatDoorInkOka
import Derived.Test.YtinlhigpmchiaaaGreatDoorPackI
import Derived.Test.YtinlhigpmchiaaaGreatDoorSum
namespace Go.Proofs.YtinlhigpmchiaaaGreatDoor
set_option linter.unusedSimpArgs false
set_option linter.unusedVariables false
set_option maxRecDepth 20000
open Go.RowKit
open Go.ChangeShapes Go.WideShapes Go.Deep Go.Joins

def colOf (l : List Pt) : Nat → List Int
  | 0 => l.map (·.x)
  | 1 => l.map (·.y)
  | _ => l.map (·.t)
theorem colOf_len (l : List Pt) (i : Nat) : (colOf l i).length = l.length := by
  match i with
  | 0 => exact List.length_map _
  | 1 => exact List.length_map _
  | n + 2 => exact List.length_map _
def resL (c : List Int) : List Int := residTo c c.length
def parK (c : List Int) : Nat := (bestTo (resL c) 12).1
/-- the bits of a list's first j residuals, behind the parameter -/
def lstTo (c : List Int) (j : Nat) : List UInt8 := numBits ((parK c : Nat) : Int) 4 ++ ((resL c).take j).flatMap fun r => riceL r (parK c)
def lstB (c : List Int) : List UInt8 := lstTo c c.length
theorem lstTo_zero (c : List Int) : lstTo c 0 = numBits ((parK c : Nat) : Int) 4 := by unfold lstTo; rw [List.take_zero]; simp
theorem resL_len (c : List Int) : (resL c).length = c.length := residTo_len c _
theorem lstTo_next {c : List Int} {j : Nat} (h : j < (resL c).length) : lstTo c (j + 1) = lstTo c j ++ riceL (resL c)[j] (parK c) := by
  unfold lstTo
  rw [List.take_succ_eq_append_getElem h, List.flatMap_append]
  simp
def colTo (l : List Pt) : Nat → List UInt8
  | 0 => []
  | i + 1 => colTo l i ++ lstB (colOf l i)
def skB (l : List Pt) : List UInt8 := numBits (l.length : Int) 8 ++ colTo l 3
def inkTo (P : List (List Pt)) (k : Nat) : List UInt8 := numBits (P.length : Int) 8 ++ (P.take k).flatMap skB
def inkBits (P : List (List Pt)) : List UInt8 := inkTo P P.length
theorem inkTo_next {P : List (List Pt)} {k : Nat} (h : k < P.length) : inkTo P (k + 1) = inkTo P k ++ skB P[k] := by
  unfold inkTo
  rw [List.take_succ_eq_append_getElem h, List.flatMap_append]
  simp
def encS (P : List (List Pt)) : List UInt8 := [73, 75] ++ packTo (bs (inkBits P)) (inkBits P).length
def encB (P : List (List Pt)) : List UInt8 := encS P ++ [UInt8.ofNat ((csum (encS P)).toNat / 256), UInt8.ofNat ((csum (encS P)).toNat % 256)]

theorem best_min (l : List Int) : ∀ m, (bestTo l m).1 ≤ m ∧ (bestTo l m).2 = bitsTo l (bestTo l m).1 l.length ∧ ∀ j, j ≤ m → (bestTo l m).2 ≤ bitsTo l j l.length
  | 0 => ⟨Nat.le_refl _, rfl, fun j hj => by
      obtain rfl : j = 0 := by omega
      exact Nat.le_refl _⟩
  | m + 1 => by
    obtain ⟨h1, h2, h3⟩ := best_min l m
    by_cases h : bitsTo l (m + 1) l.length < (bestTo l m).2
    · rw [best_lt h]
      refine ⟨Nat.le_refl _, rfl, fun j hj => ?_⟩
      rcases Nat.lt_or_eq_of_le hj with h4 | h4
      · have := h3 j (by omega)
        show bitsTo l (m + 1) l.length ≤ _
        omega
      · subst h4; exact Nat.le_refl _
    · rw [best_ge h]
      refine ⟨by omega, h2, fun j hj => ?_⟩
      rcases Nat.lt_or_eq_of_le hj with h4 | h4
      · exact h3 j (by omega)
      · subst h4; omega
theorem bits_sum {l : List Int} {k : Nat} : ∀ j, j ≤ l.length → ((l.take j).flatMap fun r => riceL r k).length = bitsTo l k j
  | 0, _ => by rw [List.take_zero]; rfl
  | j + 1, h => by
    rw [List.take_succ_eq_append_getElem (by omega), List.flatMap_append, List.length_append, bits_sum j (by omega), bitsTo_next (by omega)]
    simp [riceN]
theorem parK_le (c : List Int) : parK c ≤ 12 := (best_min (resL c) 12).1
theorem lstTo_len {c : List Int} {j : Nat} (h : j ≤ c.length) : (lstTo c j).length = 4 + bitsTo (resL c) (parK c) j := by
  unfold lstTo
  rw [List.length_append, numBits_length, bits_sum j (by rw [resL_len]; exact h)]
theorem lstB_le (c : List Int) : (lstB c).length ≤ 4 + bitsTo (resL c) 12 c.length := by
  obtain ⟨_, h2, h3⟩ := best_min (resL c) 12
  have h4 := h3 12 (Nat.le_refl _)
  rw [h2, resL_len] at h4
  unfold lstB
  rw [lstTo_len (Nat.le_refl _)]
  exact Nat.add_le_add_left h4 4
/-- residuals that lie within bounds -/
theorem bits_le {l : List Int} {B : Nat} (hB : ∀ r ∈ l, riceN r 12 ≤ B) : ∀ j, j ≤ l.length → bitsTo l 12 j ≤ B * j
  | 0, _ => Nat.le_refl _
  | j + 1, h => by
    have h1 := bits_le hB j (by omega)
    have h2 := hB _ (List.getElem_mem (show j < l.length by omega))
    rw [bitsTo_next (by omega), Nat.mul_succ]
    omega
theorem res_mem {c : List Int} {r : Int} (h : r ∈ resL c) : ∃ j, ∃ hj : j < c.length, r = c[j] - guessI c j := by
  have : ∀ k, k ≤ c.length → r ∈ residTo c k → ∃ j, ∃ hj : j < c.length, r = c[j] - guessI c j := by
    intro k
    induction k with
    | zero => intro _ hm; have h0 := residTo_len c 0; rw [List.eq_nil_of_length_eq_zero h0] at hm; simp at hm
    | succ k ih =>
      intro hk hm
      rw [residTo_next (by omega), List.mem_append, List.mem_singleton] at hm
      rcases hm with hm | hm
      · exact ih (by omega) hm
      · exact ⟨k, by omega, hm⟩
  exact this _ (Nat.le_refl _) h
theorem guess_of {c : List Int} {M : Int} (h0 : 0 ≤ M) (h : ∀ x ∈ c, 0 ≤ x ∧ x ≤ M) (j : Nat) (hj : j < c.length) : -(2 * M) ≤ c[j] - guessI c j ∧ c[j] - guessI c j ≤ 2 * M := by
  have a := h _ (List.getElem_mem hj)
  match j, hj with
  | 0, hj => unfold guessI; simp at a ⊢; omega
  | 1, hj =>
    have b := h _ (List.getElem_mem (show 0 < c.length by omega))
    unfold guessI
    simp at a b ⊢
    rw [show c[0]?.getD 0 = c[0] from by rw [List.getElem?_eq_getElem (show 0 < c.length by omega)]; rfl]
    omega
  | n + 2, hj =>
    have b := h _ (List.getElem_mem (show n + 1 < c.length by omega))
    have d := h _ (List.getElem_mem (show n < c.length by omega))
    unfold guessI
    simp at a b d ⊢
    rw [show c[n + 1]?.getD 0 = c[n + 1] from by rw [List.getElem?_eq_getElem (show n + 1 < c.length by omega)]; rfl, show c[n]?.getD 0 = c[n] from by rw [List.getElem?_eq_getElem (show n < c.length by omega)]; rfl]
    omega
theorem rest_of {c : List Int} {M : Int} (h0 : 0 ≤ M) (hM : M ≤ 100000000) (h : ∀ x ∈ c, 0 ≤ x ∧ x ≤ M) : ∀ r ∈ resL c, -(2 * M) ≤ r ∧ r ≤ 2 * M := fun r hr => by
  obtain ⟨j, hj, rfl⟩ := res_mem hr
  exact guess_of h0 h j hj
theorem rice_small {r : Int} (h : -8190 ≤ r ∧ r ≤ 8190) : riceN r 12 ≤ 16 := by
  have h1 := riceN_is (n := r) (by omega) (k := 12) (by omega)
  have h2 : 0 ≤ foldI r ∧ foldI r ≤ 16380 := by unfold foldI; split <;> omega
  have h3 : foldI r / 2 ^ 12 ≤ 3 := by
    have e : (2 : Int) ^ 12 = 4096 := by decide
    rw [e]; omega
  rw [if_pos (by omega)] at h1
  omega
theorem lst_small {c : List Int} (h : ∀ x ∈ c, 0 ≤ x ∧ x ≤ 4095) : (lstB c).length ≤ 4 + 16 * c.length := by
  have h1 := lstB_le c
  have h2 := bits_le (l := resL c) (B := 16) (fun r hr => rice_small (by have := rest_of (M := 4095) (by omega) (by omega) h r hr; omega)) c.length (by rw [resL_len]; exact Nat.le_refl _)
  omega
theorem lst_big {c : List Int} (h : ∀ x ∈ c, 0 ≤ x ∧ x ≤ 3600000) : (lstB c).length ≤ 4 + 52 * c.length := by
  have h1 := lstB_le c
  have h2 := bits_le (l := resL c) (B := 52) (fun r hr => riceN_le (by have := rest_of (M := 3600000) (by omega) (by omega) h r hr; omega) (by omega)) c.length (by rw [resL_len]; exact Nat.le_refl _)
  omega
theorem skB_le {l : List Pt} (h : ∀ p ∈ l, ptB p = true) : (skB l).length ≤ 20 + 84 * l.length := by
  have hx : ∀ x ∈ colOf l 0, 0 ≤ x ∧ x ≤ 4095 := fun x hx => by
    obtain ⟨p, hp, rfl⟩ := List.mem_map.1 hx
    exact (ptB_true (h p hp)).1
  have hy : ∀ x ∈ colOf l 1, 0 ≤ x ∧ x ≤ 4095 := fun x hx => by
    obtain ⟨p, hp, rfl⟩ := List.mem_map.1 hx
    exact (ptB_true (h p hp)).2.1
  have ht : ∀ x ∈ colOf l 2, 0 ≤ x ∧ x ≤ 3600000 := fun x hx => by
    obtain ⟨p, hp, rfl⟩ := List.mem_map.1 hx
    exact (ptB_true (h p hp)).2.2
  have a := lst_small hx
  have b := lst_small hy
  have c := lst_big ht
  rw [colOf_len] at a b c
  unfold skB
  show (numBits (l.length : Int) 8 ++ ((([] ++ lstB (colOf l 0)) ++ lstB (colOf l 1)) ++ lstB (colOf l 2))).length ≤ _
  simp only [List.length_append, numBits_length, List.length_nil]
  omega
theorem isBit_num (n : Int) : ∀ k, (numBits n k).all isBit = true
  | 0 => rfl
  | k + 1 => by
    have ih := isBit_num n k
    have h1 : ((bitOf n k).toNat : Int) = 48 + n / 2 ^ k % 2 := bitOf_val n k
    have h2 : bitOf n k = 48 ∨ bitOf n k = 49 := by
      have h3 : n / 2 ^ k % 2 = 0 ∨ n / 2 ^ k % 2 = 1 := by omega
      rcases h3 with e | e
      · left; apply UInt8.toNat_inj.1; rw [e] at h1; show (bitOf n k).toNat = 48; omega
      · right; apply UInt8.toNat_inj.1; rw [e] at h1; show (bitOf n k).toNat = 49; omega
    have h4 : isBit (bitOf n k) = true := by rcases h2 with e | e <;> rw [e] <;> rfl
    show ((bitOf n k) :: numBits n k).all isBit = true
    rw [List.all_cons, h4, ih]; rfl
theorem isBit_rice (r : Int) (k : Nat) : (riceL r k).all isBit = true := by
  unfold riceL riceU
  split
  · rw [List.all_append, List.all_cons, isBit_num]
    have : (List.replicate (foldI r / 2 ^ k).toNat (49 : UInt8)).all isBit = true := by
      rw [List.all_eq_true]; intro x hx; rw [(List.mem_replicate.1 hx).2]; rfl
    rw [this]; rfl
  · rw [List.all_append, isBit_num]
    have : (List.replicate 20 (49 : UInt8)).all isBit = true := by rfl
    rw [this]; rfl
theorem isBit_flat {α : Type} {f : α → List UInt8} (h : ∀ a, (f a).all isBit = true) : ∀ l : List α, (l.flatMap f).all isBit = true
  | [] => rfl
  | a :: l => by rw [List.flatMap_cons, List.all_append, h a, isBit_flat h l]; rfl
theorem isBit_lst (c : List Int) : (lstB c).all isBit = true := by
  unfold lstB lstTo
  rw [List.all_append, isBit_num, isBit_flat fun r => isBit_rice r _]; rfl
theorem isBit_sk (l : List Pt) : (skB l).all isBit = true := by
  unfold skB
  show (numBits (l.length : Int) 8 ++ ((([] ++ lstB (colOf l 0)) ++ lstB (colOf l 1)) ++ lstB (colOf l 2))).all isBit = true
  rw [List.all_append, List.all_append, List.all_append, List.all_append, isBit_num, isBit_lst, isBit_lst, isBit_lst]; rfl
theorem isBit_ink (P : List (List Pt)) (k : Nat) : (inkTo P k).all isBit = true := by
  unfold inkTo
  rw [List.all_append, isBit_num, isBit_flat isBit_sk]; rfl
theorem flat_le {α : Type} {f : α → List UInt8} {B : Nat} : ∀ {l : List α}, (∀ a ∈ l, (f a).length ≤ B) → (l.flatMap f).length ≤ B * l.length
  | [], _ => by simp
  | a :: l, h => by
    have h1 := h a (by simp)
    have h2 := flat_le (f := f) (B := B) (l := l) fun x hx => h x (List.mem_cons_of_mem _ hx)
    rw [List.flatMap_cons, List.length_append, List.length_cons, Nat.mul_add, Nat.mul_one]
    omega
theorem ptsOf_mk2 (P : List (List Pt)) : ptsOf (P.map fun l => (⟨none, 0, l⟩ : St)) = P := by
  unfold ptsOf
  rw [List.map_map]
  exact List.map_id' P
theorem inkB_all {P : List (List Pt)} (h : inkB P = true) : P.length ≤ 16 ∧ ∀ l ∈ P, strB l = true := by
  rw [← ptsOf_mk2 P] at h
  obtain ⟨h1, h2⟩ := inkB_true h
  refine ⟨by simpa using h1, fun l hl => ?_⟩
  obtain ⟨j, hj, rfl⟩ := List.mem_iff_getElem.1 hl
  have h3 := h2 j (by simpa using hj)
  simpa using h3
theorem strB_pt {l : List Pt} (h : strB l = true) : l.length ≤ 60 ∧ ∀ p ∈ l, ptB p = true := by
  obtain ⟨_, h2, h3, _⟩ := strB_true h
  refine ⟨h2, fun p hp => ?_⟩
  obtain ⟨j, hj, rfl⟩ := List.mem_iff_getElem.1 hp
  exact h3 j hj
theorem inkTo_le {P : List (List Pt)} (h : inkB P = true) (k : Nat) : (inkTo P k).length ≤ 80968 := by
  obtain ⟨h1, h2⟩ := inkB_all h
  have h3 := flat_le (f := skB) (B := 5060) (l := P.take k) fun l hl => by
    obtain ⟨h4, h5⟩ := strB_pt (h2 l (List.mem_of_mem_take hl))
    have := skB_le h5
    omega
  have h6 : (P.take k).length ≤ P.length := by rw [List.length_take]; exact Nat.min_le_right _ _
  unfold inkTo
  rw [List.length_append, numBits_length]
  have h7 := Nat.mul_le_mul_left 5060 (Nat.le_trans h6 h1)
  omega
theorem inkBits_ok {P : List (List Pt)} (h : inkB P = true) : bitsOk (bs (inkBits P)) = true := by
  have h1 := inkTo_le h P.length
  have h2 := isBit_ink P P.length
  unfold bitsOk
  rw [bs_size, bs_list]
  unfold inkBits
  rw [h2]
  simp
  omega
end Go.Proofs.YtinlhigpmchiaaaGreatDoor
