/-
  The number of a Rice code, in plain words; the parts that program and reference share.
-/
import Derived.Test.YtmdmjnhebbhjbaaGreatDoorAreBits
import Derived.IntWalk
namespace Go.Proofs.YtmdmjnhebbhjbaaGreatDoor
set_option linter.unusedSimpArgs false
set_option linter.unusedVariables false
set_option maxRecDepth 20000
open Go.RowKit
open Go.ChangeShapes Go.WideShapes Go.Deep Go.Joins

/-- the number in some bits -/
def valB (l : List UInt8) : Nat := l.foldl (fun n b => 2 * n + (b.toNat - 48)) 0
theorem valB_snoc (l : List UInt8) (b : UInt8) : valB (l ++ [b]) = 2 * valB l + (b.toNat - 48) := by simp [valB]
theorem rev_rec {P : List UInt8 → Prop} (h0 : P []) (h1 : ∀ l b, P l → P (l ++ [b])) (l : List UInt8) : P l := by
  have h : ∀ m : List UInt8, P m.reverse := fun m => by
    induction m with
    | nil => exact h0
    | cons x m ih => rw [List.reverse_cons]; exact h1 _ _ ih
  have := h l.reverse
  rwa [List.reverse_reverse] at this
theorem valB_bd {l : List UInt8} (h : l.all isBit = true) : valB l < 2 ^ l.length := by
  revert h
  refine rev_rec (P := fun l => l.all isBit = true → valB l < 2 ^ l.length) ?_ ?_ l
  · intro _; simp [valB]
  · intro l b ih h
    rw [List.all_append, Bool.and_eq_true] at h
    have h1 := ih h.1
    have h2 : b.toNat - 48 ≤ 1 := by
      have h3 : isBit b = true := by simpa using h.2
      rcases bit_cases (b := b) with ⟨_, h4 | h4⟩ | ⟨h4, _⟩
      · subst h4; decide
      · subst h4; decide
      · rw [h3] at h4; cases h4
    rw [valB_snoc, List.length_append, List.length_singleton, Nat.pow_succ]
    omega
theorem valB_take {l : List UInt8} {k : Nat} (h : k < l.length) : valB (l.take (k + 1)) = 2 * valB (l.take k) + (l[k].toNat - 48) := by rw [List.take_succ_eq_append_getElem h, valB_snoc]
/-- the number with a sign -/
def unfI (u : Nat) : Int := if u % 2 = 1 then -(((u + 1) / 2 : Nat) : Int) else ((u / 2 : Nat) : Int)
theorem unfI_odd (v : Nat) : unfI (2 * v + 1) = -((v : Int) + 1) := by unfold unfI; rw [if_pos (by omega)]; omega
theorem unfI_even (v : Nat) : unfI (2 * v) = (v : Int) := by unfold unfI; rw [if_neg (by omega)]; omega
theorem par (u : Nat) : (∃ v, u = 2 * v + 1) ∨ ∃ v, u = 2 * v := by
  rcases Nat.mod_two_eq_zero_or_one u with h | h
  · exact .inr ⟨u / 2, by omega⟩
  · exact .inl ⟨u / 2, by omega⟩
set_option maxHeartbeats 1000000 in
theorem unfolded_any (u : Nat) (hu : u ≤ 8589934592) (w : World) : Calls Tryz.prog 158 #[.int .i64 (u : Int)] w fun e w' => e = .returned (.int .i64 (unfI u)) ∧ w = w' := by
  rcases par u with ⟨v, rfl⟩ | ⟨v, rfl⟩
  · have h1 : ((2 * v + 1 : Nat) : Int) % 2 = 1 := by omega
    have h2 : IntKind.i64.wrap (((2 * v + 1 : Nat) : Int) + 1) = ((2 * v + 1 : Nat) : Int) + 1 := IntWalk.i64_in _ (by omega)
    have h3 : IntKind.i64.wrap (-(((2 * v + 1 : Nat) : Int) + 1)) = -(((2 * v + 1 : Nat) : Int) + 1) := IntWalk.i64_in _ (by omega)
    have h4 : (-(((2 * v + 1 : Nat) : Int) + 1)).tdiv 2 = -((v : Int) + 1) := by
      have e : (((2 * v + 1 : Nat) : Int) + 1) = 2 * ((v : Int) + 1) := by omega
      rw [e, Int.neg_tdiv, Int.mul_tdiv_cancel_left _ (by omega)]
    have h5 : IntKind.i64.wrap (-((v : Int) + 1)) = -((v : Int) + 1) := IntWalk.i64_in _ (by omega)
    have HE := Lib.hid (unfI_odd v)
    obtain ⟨z, hz⟩ : ∃ z : Int, ((2 * v + 1 : Nat) : Int) = z := ⟨_, rfl⟩
    rw [hz] at h1 h2 h3 h4 ⊢
    have hz0 : 0 ≤ z := by omega
    have hz1 : z ≤ 8589934592 := by omega
    clear hz
    go_enter Tryz.func158, Tryz.ntmps158
    go_wp2_with fail
    go_ret
    exact ⟨ret_int (by rw [HE.out] <;> first | rfl | omega), rfl⟩
  · have h1 : ((2 * v : Nat) : Int) % 2 = 0 := by omega
    have h4 : ((2 * v : Nat) : Int) / 2 = (v : Int) := by omega
    have HE := Lib.hid (unfI_even v)
    obtain ⟨z, hz⟩ : ∃ z : Int, ((2 * v : Nat) : Int) = z := ⟨_, rfl⟩
    rw [hz] at h1 h4 ⊢
    have hz0 : 0 ≤ z := by omega
    have hz1 : z ≤ 8589934592 := by omega
    clear hz
    go_enter Tryz.func158, Tryz.ntmps158
    go_wp2_with fail
    go_ret
    exact ⟨ret_int (by rw [HE.out] <;> first | rfl | omega), rfl⟩
set_option maxHeartbeats 1000000 in
theorem l04Unfold_any (u : Nat) (hu : u ≤ 8589934592) (w : World) : Calls Tryz.prog 153 #[.int .i64 (u : Int)] w fun e w' => e = .returned (.int .i64 (unfI u)) ∧ w = w' := by
  rcases par u with ⟨v, rfl⟩ | ⟨v, rfl⟩
  · have h1 : ((2 * v + 1 : Nat) : Int) % 2 = 1 := by omega
    have h2 : IntKind.i64.wrap (((2 * v + 1 : Nat) : Int) + 1) = ((2 * v + 1 : Nat) : Int) + 1 := IntWalk.i64_in _ (by omega)
    have h3 : IntKind.i64.wrap (-(((2 * v + 1 : Nat) : Int) + 1)) = -(((2 * v + 1 : Nat) : Int) + 1) := IntWalk.i64_in _ (by omega)
    have h4 : (-(((2 * v + 1 : Nat) : Int) + 1)).tdiv 2 = -((v : Int) + 1) := by
      have e : (((2 * v + 1 : Nat) : Int) + 1) = 2 * ((v : Int) + 1) := by omega
      rw [e, Int.neg_tdiv, Int.mul_tdiv_cancel_left _ (by omega)]
    have h5 : IntKind.i64.wrap (-((v : Int) + 1)) = -((v : Int) + 1) := IntWalk.i64_in _ (by omega)
    have HE := Lib.hid (unfI_odd v)
    obtain ⟨z, hz⟩ : ∃ z : Int, ((2 * v + 1 : Nat) : Int) = z := ⟨_, rfl⟩
    rw [hz] at h1 h2 h3 h4 ⊢
    have hz0 : 0 ≤ z := by omega
    have hz1 : z ≤ 8589934592 := by omega
    clear hz
    go_enter Tryz.func153, Tryz.ntmps153
    go_wp2_with fail
    go_ret
    exact ⟨ret_int (by rw [HE.out] <;> first | rfl | omega), rfl⟩
  · have h1 : ((2 * v : Nat) : Int) % 2 = 0 := by omega
    have h4 : ((2 * v : Nat) : Int) / 2 = (v : Int) := by omega
    have HE := Lib.hid (unfI_even v)
    obtain ⟨z, hz⟩ : ∃ z : Int, ((2 * v : Nat) : Int) = z := ⟨_, rfl⟩
    rw [hz] at h1 h4 ⊢
    have hz0 : 0 ≤ z := by omega
    have hz1 : z ≤ 8589934592 := by omega
    clear hz
    go_enter Tryz.func153, Tryz.ntmps153
    go_wp2_with fail
    go_ret
    exact ⟨ret_int (by rw [HE.out] <;> first | rfl | omega), rfl⟩
theorem bit_val {b : UInt8} (h : isBit b = true) : (b.toNat : Int) = 48 ∨ (b.toNat : Int) = 49 := by
  rcases bit_cases (b := b) with ⟨_, h4 | h4⟩ | ⟨h4, _⟩
  · left; subst h4; rfl
  · right; subst h4; rfl
  · rw [h] at h4; cases h4
theorem pow_le {k : Nat} (h : k ≤ 32) : 2 ^ k ≤ 4294967296 := Nat.pow_le_pow_right (n := 2) (by omega) h
set_option maxHeartbeats 1500000 in
theorem readNumber_any (s : ByteArray) (m : Nat) (hm : m ≤ s.size) (h32 : m ≤ 32) (hs : s.size ≤ 1048576) (hall : s.data.toList.all isBit = true) (w : World) :
    Calls Tryz.prog 92 #[.string s, .int .i64 (m : Int)] w fun e w' => e = .returned (.int .i64 (valB (s.data.toList.take m) : Int)) ∧ w = w' := by
  have hsl : s.data.toList.length = s.size := Array.length_toList
  have HL := Lib.hid hsl
  have HA := Lib.hid hall
  have hbd : ∀ j, j ≤ m → valB (s.data.toList.take j) ≤ 4294967296 := fun j hj => by
    have h1 := valB_bd (l := s.data.toList.take j) (List.all_eq_true.2 fun x hx => List.all_eq_true.1 hall x (List.mem_of_mem_take hx))
    have h2 : (s.data.toList.take j).length ≤ 32 := Nat.le_trans (List.length_take_le _ _) (by omega)
    have := pow_le h2
    omega
  clear hsl hall
  go_enter Tryz.func92, Tryz.ntmps92
  go_wp2_with fail
  go_loop [5, 6] (fun n i => ∃ j v : Nat, j ≤ m ∧ i = .int .i64 (j : Int) ∧ n = .int .i64 (v : Int) ∧ v ≤ 4294967296 ∧ Hid (valB (s.data.toList.take j) = v)) (fun _ i => m - (intOf i).toNat)
  case atStart => exact ⟨0, 0, Nat.zero_le _, rfl, rfl, by omega, by simp [Hid, valB]⟩
  case round =>
    obtain ⟨j, v, hj, rfl, rfl, hv, hval⟩ := hrel
    by_cases hlt : j < m
    · have hjs : j < s.size := by omega
      have hkl : j < s.data.toList.length := by rw [HL.out]; exact hjs
      have hb : isBit s[j] = true := List.all_eq_true.1 HA.out _ (List.mem_of_getElem? (i := j) (by rw [List.getElem?_eq_getElem hkl]; rfl))
      have hnx := Lib.hid (valB_take hkl)
      have hn2 := hbd (j + 1) hlt
      rcases bit_val hb with ev | ev
      all_goals
        have he : (s.data.toList[j]).toNat = s[j].toNat := rfl
        have hnv : Hid (valB (s.data.toList.take (j + 1)) = 2 * v + (s[j].toNat - 48)) := by rw [Hid, hnx.out, hval.out, he]
        rw [hnv.out] at hn2
        have hn3 : Hid (s[j].toNat - 48 = (s[j].toNat - 48)) := rfl
        have hj0 : (0 : Int) ≤ (j : Int) := by omega
        clear hnx he
        go_wp2_with fail
        go_round
        case rel => exact ⟨j + 1, 2 * v + (s[j].toNat - 48), by omega, by go_num, by congr 1; omega, by omega, hnv⟩
        case measure => (simp [intOf]; try omega)
    · obtain rfl : j = m := by omega
      go_wp2_with fail
      go_ret
      exact ⟨ret_int (by rw [hval.out]), rfl⟩
set_option maxHeartbeats 1500000 in
theorem l04Value_any (s : ByteArray) (h32 : s.size ≤ 32) (hall : s.data.toList.all isBit = true) (w : World) :
    Calls Tryz.prog 82 #[.string s] w fun e w' => e = .returned (.int .i64 (valB s.data.toList : Int)) ∧ w = w' := by
  have hsl : s.data.toList.length = s.size := Array.length_toList
  have HL := Lib.hid hsl
  have HA := Lib.hid hall
  have hbd : ∀ j, j ≤ s.size → valB (s.data.toList.take j) ≤ 4294967296 := fun j hj => by
    have h1 := valB_bd (l := s.data.toList.take j) (List.all_eq_true.2 fun x hx => List.all_eq_true.1 hall x (List.mem_of_mem_take hx))
    have h2 : (s.data.toList.take j).length ≤ 32 := Nat.le_trans (List.length_take_le _ _) (by omega)
    have := pow_le h2
    omega
  clear hsl hall
  go_enter Tryz.func82, Tryz.ntmps82
  go_wp2_with fail
  go_loop [3, 4] (fun n i => ∃ j v : Nat, j ≤ s.size ∧ i = .int .i64 (j : Int) ∧ n = .int .i64 (v : Int) ∧ v ≤ 4294967296 ∧ Hid (valB (s.data.toList.take j) = v)) (fun _ i => s.size - (intOf i).toNat)
  case atStart => exact ⟨0, 0, Nat.zero_le _, rfl, rfl, by omega, by simp [Hid, valB]⟩
  case round =>
    obtain ⟨j, v, hj, rfl, rfl, hv, hval⟩ := hrel
    by_cases hlt : j < s.size
    · have hkl : j < s.data.toList.length := by rw [HL.out]; exact hlt
      have hb : isBit s[j] = true := List.all_eq_true.1 HA.out _ (List.mem_of_getElem? (i := j) (by rw [List.getElem?_eq_getElem hkl]; rfl))
      have hnx := Lib.hid (valB_take hkl)
      have hn2 := hbd (j + 1) hlt
      rcases bit_val hb with ev | ev
      all_goals
        have he : (s.data.toList[j]).toNat = s[j].toNat := rfl
        have hnv : Hid (valB (s.data.toList.take (j + 1)) = 2 * v + (s[j].toNat - 48)) := by rw [Hid, hnx.out, hval.out, he]
        rw [hnv.out] at hn2
        have hj0 : (0 : Int) ≤ (j : Int) := by omega
        clear hnx he
        go_wp2_with fail
        go_round
        case rel => exact ⟨j + 1, 2 * v + (s[j].toNat - 48), by omega, by go_num, by congr 1; omega, by omega, hnv⟩
        case measure => (simp [intOf]; try omega)
    · obtain rfl : j = s.size := by omega
      go_wp2_with fail
      go_ret
      exact ⟨ret_int (by rw [← hval.out, List.take_of_length_le (by rw [HL.out]; exact Nat.le_refl _)]), rfl⟩
/-- how many ones stand at a (20 at the most) -/
structure OnesAt (s : ByteArray) (a q : Nat) : Prop where
  le : q ≤ 20
  fit : a + q ≤ s.size
  one : ∀ j, j < q → ∀ h : a + j < s.size, s[a + j] = 49
  stop : q = 20 ∨ a + q = s.size ∨ ∃ h : a + q < s.size, ¬ s[a + q] = 49
theorem ones_exist (s : ByteArray) (a : Nat) : ∀ (f j : Nat), 20 - j = f → j ≤ 20 → a + j ≤ s.size → (∀ i, i < j → ∀ h : a + i < s.size, s[a + i] = 49) → ∃ q, OnesAt s a q
  | 0, j, hf, hj, hfit, hone => ⟨j, by omega, hfit, hone, .inl (by omega)⟩
  | f + 1, j, hf, hj, hfit, hone => by
    rcases Nat.lt_or_ge (a + j) s.size with hlt | hge
    · by_cases h : s[a + j] = 49
      · refine ones_exist s a f (j + 1) (by omega) (by omega) (by omega) fun i hi hs => ?_
        rcases Nat.lt_or_ge i j with h1 | h1
        · exact hone i h1 hs
        · obtain rfl : i = j := by omega
          exact h
      · exact ⟨j, hj, hfit, hone, .inr (.inr ⟨hlt, h⟩)⟩
    · exact ⟨j, hj, hfit, hone, .inr (.inl (by omega))⟩
end Go.Proofs.YtmdmjnhebbhjbaaGreatDoor
