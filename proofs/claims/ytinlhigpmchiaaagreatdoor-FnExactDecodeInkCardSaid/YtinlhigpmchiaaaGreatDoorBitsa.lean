/-
  A text of bits: program and reference ask the same. The number of a Rice code, in plain words; the parts that program and reference share. The number whose Rice code begins at an index: program and reference read the same. The number whose Rice code begins at an index, as the reference reads it. ReadRice: program and reference read the same number, or refuse alike. Bits as bytes: program and reference pack the same.
-/
import Derived.Test.YtinlhigpmchiaaaGreatDoorStra
import Derived.Test.YtinlhigpmchiaaaGreatDoorShelf
import Derived.Shelf.Strings.SlTrimAscii
import Derived.IntWalk
import Derived.Test.YtinlhigpmchiaaaGreatDoorSmall
import Derived.Test.YtinlhigpmchiaaaGreatDoorKda
import Derived.Lib.OthersKept
namespace Go.Proofs.YtinlhigpmchiaaaGreatDoor
set_option linter.unusedSimpArgs false
set_option linter.unusedVariables false
set_option maxRecDepth 20000
open Go.RowKit
open Go.ChangeShapes Go.WideShapes Go.Deep Go.Joins

def isBit (b : UInt8) : Bool := b == 48 || b == 49
def bitsOk (s : ByteArray) : Bool := decide (s.size ≤ 100000) && s.data.toList.all isBit
theorem dropWhile_nil {p : UInt8 → Bool} {l : List UInt8} : l.dropWhile p = [] ↔ l.all p = true := by
  induction l with
  | nil => simp
  | cons x l ih =>
    rw [List.dropWhile_cons, List.all_cons]
    split
    · rename_i h
      rw [h, Bool.true_and]; exact ih
    · rename_i h
      simp [h]
theorem dropWhile_head {p : UInt8 → Bool} {l : List UInt8} (h : ∀ x ∈ l.dropWhile p, p x = true) : l.dropWhile p = [] := by
  induction l with
  | nil => rfl
  | cons x l ih =>
    rw [List.dropWhile_cons] at h ⊢
    split at h
    · rename_i hx
      rw [if_pos hx]; exact ih h
    · rename_i hx
      exact absurd (h x (by simp)) hx
theorem trim01 (l : List UInt8) : Lib.trimS l [48, 49] = [] ↔ l.all isBit = true := by
  have hp : (fun b : UInt8 => ([48, 49] : List UInt8).contains b) = isBit := by
    funext b
    show (b == 48 || (b == 49 || false)) = (b == 48 || b == 49)
    rw [Bool.or_false]
  unfold Lib.trimS Lib.trimLeftS Lib.trimRightS
  rw [hp, dropWhile_nil, List.all_reverse]
  constructor
  · intro h
    have h1 : l.reverse.dropWhile isBit = [] := dropWhile_head fun x hx => List.all_eq_true.1 h x hx
    rw [dropWhile_nil, List.all_reverse] at h1
    exact h1
  · intro h
    have h1 : l.reverse.dropWhile isBit = [] := by rw [dropWhile_nil, List.all_reverse]; exact h
    rw [h1]; rfl
theorem trim01_any (s : ByteArray) (hs : s.size ≤ 1048576) (w : World) :
    Calls Tryz.prog 81 #[.string s, .string ⟨#[48, 49]⟩] w fun e w' => e = .returned (.string (bs (Lib.trimS s.data.toList [48, 49]))) ∧ Below w.heap.size w w' :=
  Any.strings_Trim_laid Tryz.lays160 (by kernel_rfl) s ⟨#[48, 49]⟩ w (by omega) (by decide) (ascii_of_all (by decide))
theorem bs_toList (l : List UInt8) : (bs l).toList = l := by rw [ByteArray.toList_eq, bs_list]
set_option maxHeartbeats 4000000 in
theorem areBits_any (s : ByteArray) (hs : s.size ≤ 1048576) (w : World) :
    Calls Tryz.prog 65 #[.string s] w fun e w' => e = .returned (.bool (bitsOk s)) ∧ Below w.heap.size w w' := by
  by_cases h1 : s.size ≤ 100000
  · obtain ⟨y, hy⟩ : ∃ y, bs (Lib.trimS s.data.toList [48, 49]) = y := ⟨_, rfl⟩
    have hyl : y.toList = Lib.trimS s.data.toList [48, 49] := by rw [← hy, bs_toList]
    have HC := trim01_any s hs w
    rw [hy] at HC
    have hb : Hid (bitsOk s = s.data.toList.all isBit) := by rw [Hid, bitsOk, decide_eq_true h1, Bool.true_and]
    cases h2 : s.data.toList.all isBit
    · have hemp : y.toList.isEmpty = false := by
        rw [List.isEmpty_eq_false_iff, hyl]
        intro e
        rw [(trim01 _).1 e] at h2
        cases h2
      have H2 := Lib.hid h2
      clear h2 hyl hy
      go_enter Tryz.func65, Tryz.ntmps65
      go_wp2_with fail
      refine HC.mono ?_
      rintro e w2 ⟨rfl, hb2⟩
      go_wp2_with fail
      go_ret
      exact ⟨ret_bool (by rw [hb.out, H2.out]), hb2⟩
    · have hemp : y.toList.isEmpty = true := by rw [List.isEmpty_iff, hyl]; exact (trim01 _).2 h2
      have H2 := Lib.hid h2
      clear h2 hyl hy
      go_enter Tryz.func65, Tryz.ntmps65
      go_wp2_with fail
      refine HC.mono ?_
      rintro e w2 ⟨rfl, hb2⟩
      go_wp2_with fail
      go_ret
      exact ⟨ret_bool (by rw [hb.out, H2.out]), hb2⟩
  · have hb : Hid (bitsOk s = false) := by rw [Hid, bitsOk, decide_eq_false h1, Bool.false_and]
    go_enter Tryz.func65, Tryz.ntmps65
    go_wp2_with fail
    go_ret
    exact ⟨ret_bool hb.out.symm, Below.refl _ _⟩
theorem all_take {p : UInt8 → Bool} {l : List UInt8} {k : Nat} (h : k < l.length) (h1 : (l.take k).all p = true) (h2 : p l[k] = true) : (l.take (k + 1)).all p = true := by
  rw [List.take_succ_eq_append_getElem h, List.all_append, h1]
  simp [h2]
theorem bit_cases {b : UInt8} : (isBit b = true ∧ (b = 48 ∨ b = 49)) ∨ (isBit b = false ∧ ¬ b = 48 ∧ ¬ b = 49) := by
  by_cases h : b = 48
  · exact .inl ⟨by simp [isBit, h], .inl h⟩
  · by_cases h2 : b = 49
    · exact .inl ⟨by simp [isBit, h2], .inr h2⟩
    · exact .inr ⟨by simp [isBit, h, h2], h, h2⟩
end Go.Proofs.YtinlhigpmchiaaaGreatDoor
namespace Go.Proofs.YtinlhigpmchiaaaGreatDoor
set_option linter.unusedSimpArgs false
set_option linter.unusedVariables false
set_option maxRecDepth 20000
open Go.RowKit
open Go.ChangeShapes Go.WideShapes Go.Deep Go.Joins

/-- the number in some bits -/
def valB (l : List UInt8) : Nat := l.foldl (fun n b => 2 * n + (b.toNat - 48)) 0
theorem valB_snoc (l : List UInt8) (b : UInt8) : valB (l ++ [b]) = 2 * valB l + (b.toNat - 48) := by simp [valB]
theorem rev_rec {P : List UInt8 → Prop} (h0 : P []) (h1 : ∀ l b, P l → P (l ++ [b])) (l : List UInt8) : P l := by
  have h : ∀ m : List UInt8, P m.reverse := fun m => by
    induction m with
    | nil => exact h0
    | cons x m ih => rw [List.reverse_cons]; exact h1 _ _ ih
  have := h l.reverse
  rwa [List.reverse_reverse] at this
theorem valB_bd {l : List UInt8} (h : l.all isBit = true) : valB l < 2 ^ l.length := by
  revert h
  refine rev_rec (P := fun l => l.all isBit = true → valB l < 2 ^ l.length) ?_ ?_ l
  · intro _; simp [valB]
  · intro l b ih h
    rw [List.all_append, Bool.and_eq_true] at h
    have h1 := ih h.1
    have h2 : b.toNat - 48 ≤ 1 := by
      have h3 : isBit b = true := by simpa using h.2
      rcases bit_cases (b := b) with ⟨_, h4 | h4⟩ | ⟨h4, _⟩
      · subst h4; decide
      · subst h4; decide
      · rw [h3] at h4; cases h4
    rw [valB_snoc, List.length_append, List.length_singleton, Nat.pow_succ]
    omega
theorem valB_take {l : List UInt8} {k : Nat} (h : k < l.length) : valB (l.take (k + 1)) = 2 * valB (l.take k) + (l[k].toNat - 48) := by rw [List.take_succ_eq_append_getElem h, valB_snoc]
/-- the number with a sign -/
def unfI (u : Nat) : Int := if u % 2 = 1 then -(((u + 1) / 2 : Nat) : Int) else ((u / 2 : Nat) : Int)
theorem unfI_odd (v : Nat) : unfI (2 * v + 1) = -((v : Int) + 1) := by unfold unfI; rw [if_pos (by omega)]; omega
theorem unfI_even (v : Nat) : unfI (2 * v) = (v : Int) := by unfold unfI; rw [if_neg (by omega)]; omega
theorem par (u : Nat) : (∃ v, u = 2 * v + 1) ∨ ∃ v, u = 2 * v := by
  rcases Nat.mod_two_eq_zero_or_one u with h | h
  · exact .inr ⟨u / 2, by omega⟩
  · exact .inl ⟨u / 2, by omega⟩
set_option maxHeartbeats 1000000 in
theorem unfolded_any (u : Nat) (hu : u ≤ 8589934592) (w : World) : Calls Tryz.prog 73 #[.int .i64 (u : Int)] w fun e w' => e = .returned (.int .i64 (unfI u)) ∧ w = w' := by
  rcases par u with ⟨v, rfl⟩ | ⟨v, rfl⟩
  · have h1 : ((2 * v + 1 : Nat) : Int) % 2 = 1 := by omega
    have h2 : IntKind.i64.wrap (((2 * v + 1 : Nat) : Int) + 1) = ((2 * v + 1 : Nat) : Int) + 1 := IntWalk.i64_in _ (by omega)
    have h3 : IntKind.i64.wrap (-(((2 * v + 1 : Nat) : Int) + 1)) = -(((2 * v + 1 : Nat) : Int) + 1) := IntWalk.i64_in _ (by omega)
    have h4 : (-(((2 * v + 1 : Nat) : Int) + 1)).tdiv 2 = -((v : Int) + 1) := by
      have e : (((2 * v + 1 : Nat) : Int) + 1) = 2 * ((v : Int) + 1) := by omega
      rw [e, Int.neg_tdiv, Int.mul_tdiv_cancel_left _ (by omega)]
    have h5 : IntKind.i64.wrap (-((v : Int) + 1)) = -((v : Int) + 1) := IntWalk.i64_in _ (by omega)
    have HE := Lib.hid (unfI_odd v)
    obtain ⟨z, hz⟩ : ∃ z : Int, ((2 * v + 1 : Nat) : Int) = z := ⟨_, rfl⟩
    rw [hz] at h1 h2 h3 h4 ⊢
    have hz0 : 0 ≤ z := by omega
    have hz1 : z ≤ 8589934592 := by omega
    clear hz
    go_enter Tryz.func73, Tryz.ntmps73
    go_wp2_with fail
    go_ret
    exact ⟨ret_int (by rw [HE.out] <;> first | rfl | omega), rfl⟩
  · have h1 : ((2 * v : Nat) : Int) % 2 = 0 := by omega
    have h4 : ((2 * v : Nat) : Int) / 2 = (v : Int) := by omega
    have HE := Lib.hid (unfI_even v)
    obtain ⟨z, hz⟩ : ∃ z : Int, ((2 * v : Nat) : Int) = z := ⟨_, rfl⟩
    rw [hz] at h1 h4 ⊢
    have hz0 : 0 ≤ z := by omega
    have hz1 : z ≤ 8589934592 := by omega
    clear hz
    go_enter Tryz.func73, Tryz.ntmps73
    go_wp2_with fail
    go_ret
    exact ⟨ret_int (by rw [HE.out] <;> first | rfl | omega), rfl⟩
set_option maxHeartbeats 1000000 in
theorem l04Unfold_any (u : Nat) (hu : u ≤ 8589934592) (w : World) : Calls Tryz.prog 67 #[.int .i64 (u : Int)] w fun e w' => e = .returned (.int .i64 (unfI u)) ∧ w = w' := by
  rcases par u with ⟨v, rfl⟩ | ⟨v, rfl⟩
  · have h1 : ((2 * v + 1 : Nat) : Int) % 2 = 1 := by omega
    have h2 : IntKind.i64.wrap (((2 * v + 1 : Nat) : Int) + 1) = ((2 * v + 1 : Nat) : Int) + 1 := IntWalk.i64_in _ (by omega)
    have h3 : IntKind.i64.wrap (-(((2 * v + 1 : Nat) : Int) + 1)) = -(((2 * v + 1 : Nat) : Int) + 1) := IntWalk.i64_in _ (by omega)
    have h4 : (-(((2 * v + 1 : Nat) : Int) + 1)).tdiv 2 = -((v : Int) + 1) := by
      have e : (((2 * v + 1 : Nat) : Int) + 1) = 2 * ((v : Int) + 1) := by omega
      rw [e, Int.neg_tdiv, Int.mul_tdiv_cancel_left _ (by omega)]
    have h5 : IntKind.i64.wrap (-((v : Int) + 1)) = -((v : Int) + 1) := IntWalk.i64_in _ (by omega)
    have HE := Lib.hid (unfI_odd v)
    obtain ⟨z, hz⟩ : ∃ z : Int, ((2 * v + 1 : Nat) : Int) = z := ⟨_, rfl⟩
    rw [hz] at h1 h2 h3 h4 ⊢
    have hz0 : 0 ≤ z := by omega
    have hz1 : z ≤ 8589934592 := by omega
    clear hz
    go_enter Tryz.func67, Tryz.ntmps67
    go_wp2_with fail
    go_ret
    exact ⟨ret_int (by rw [HE.out] <;> first | rfl | omega), rfl⟩
  · have h1 : ((2 * v : Nat) : Int) % 2 = 0 := by omega
    have h4 : ((2 * v : Nat) : Int) / 2 = (v : Int) := by omega
    have HE := Lib.hid (unfI_even v)
    obtain ⟨z, hz⟩ : ∃ z : Int, ((2 * v : Nat) : Int) = z := ⟨_, rfl⟩
    rw [hz] at h1 h4 ⊢
    have hz0 : 0 ≤ z := by omega
    have hz1 : z ≤ 8589934592 := by omega
    clear hz
    go_enter Tryz.func67, Tryz.ntmps67
    go_wp2_with fail
    go_ret
    exact ⟨ret_int (by rw [HE.out] <;> first | rfl | omega), rfl⟩
theorem bit_val {b : UInt8} (h : isBit b = true) : (b.toNat : Int) = 48 ∨ (b.toNat : Int) = 49 := by
  rcases bit_cases (b := b) with ⟨_, h4 | h4⟩ | ⟨h4, _⟩
  · left; subst h4; rfl
  · right; subst h4; rfl
  · rw [h] at h4; cases h4
theorem pow_le {k : Nat} (h : k ≤ 32) : 2 ^ k ≤ 4294967296 := Nat.pow_le_pow_right (n := 2) (by omega) h
set_option maxHeartbeats 1500000 in
theorem readNumber_any (s : ByteArray) (m : Nat) (hm : m ≤ s.size) (h32 : m ≤ 32) (hs : s.size ≤ 8388608) (hall : s.data.toList.all isBit = true) (w : World) :
    Calls Tryz.prog 37 #[.string s, .int .i64 (m : Int)] w fun e w' => e = .returned (.int .i64 (valB (s.data.toList.take m) : Int)) ∧ w = w' := by
  have hsl : s.data.toList.length = s.size := Array.length_toList
  have HL := Lib.hid hsl
  have HA := Lib.hid hall
  have hbd : ∀ j, j ≤ m → valB (s.data.toList.take j) ≤ 4294967296 := fun j hj => by
    have h1 := valB_bd (l := s.data.toList.take j) (List.all_eq_true.2 fun x hx => List.all_eq_true.1 hall x (List.mem_of_mem_take hx))
    have h2 : (s.data.toList.take j).length ≤ 32 := Nat.le_trans (List.length_take_le _ _) (by omega)
    have := pow_le h2
    omega
  clear hsl hall
  go_enter Tryz.func37, Tryz.ntmps37
  go_wp2_with fail
  go_loop [5, 6] (fun n i => ∃ j v : Nat, j ≤ m ∧ i = .int .i64 (j : Int) ∧ n = .int .i64 (v : Int) ∧ v ≤ 4294967296 ∧ Hid (valB (s.data.toList.take j) = v)) (fun _ i => m - (intOf i).toNat)
  case atStart => exact ⟨0, 0, Nat.zero_le _, rfl, rfl, by omega, by simp [Hid, valB]⟩
  case round =>
    obtain ⟨j, v, hj, rfl, rfl, hv, hval⟩ := hrel
    by_cases hlt : j < m
    · have hjs : j < s.size := by omega
      have hkl : j < s.data.toList.length := by rw [HL.out]; exact hjs
      have hb : isBit s[j] = true := List.all_eq_true.1 HA.out _ (List.mem_of_getElem? (i := j) (by rw [List.getElem?_eq_getElem hkl]; rfl))
      have hnx := Lib.hid (valB_take hkl)
      have hn2 := hbd (j + 1) hlt
      rcases bit_val hb with ev | ev
      all_goals
        have he : (s.data.toList[j]).toNat = s[j].toNat := rfl
        have hnv : Hid (valB (s.data.toList.take (j + 1)) = 2 * v + (s[j].toNat - 48)) := by rw [Hid, hnx.out, hval.out, he]
        rw [hnv.out] at hn2
        have hn3 : Hid (s[j].toNat - 48 = (s[j].toNat - 48)) := rfl
        have hj0 : (0 : Int) ≤ (j : Int) := by omega
        clear hnx he
        go_wp2_with fail
        go_round
        case rel => exact ⟨j + 1, 2 * v + (s[j].toNat - 48), by omega, by go_num, by congr 1; omega, by omega, hnv⟩
        case measure => (simp [intOf]; try omega)
    · obtain rfl : j = m := by omega
      go_wp2_with fail
      go_ret
      exact ⟨ret_int (by rw [hval.out]), rfl⟩
set_option maxHeartbeats 1500000 in
theorem l04Value_any (s : ByteArray) (h32 : s.size ≤ 32) (hall : s.data.toList.all isBit = true) (w : World) :
    Calls Tryz.prog 25 #[.string s] w fun e w' => e = .returned (.int .i64 (valB s.data.toList : Int)) ∧ w = w' := by
  have hsl : s.data.toList.length = s.size := Array.length_toList
  have HL := Lib.hid hsl
  have HA := Lib.hid hall
  have hbd : ∀ j, j ≤ s.size → valB (s.data.toList.take j) ≤ 4294967296 := fun j hj => by
    have h1 := valB_bd (l := s.data.toList.take j) (List.all_eq_true.2 fun x hx => List.all_eq_true.1 hall x (List.mem_of_mem_take hx))
    have h2 : (s.data.toList.take j).length ≤ 32 := Nat.le_trans (List.length_take_le _ _) (by omega)
    have := pow_le h2
    omega
  clear hsl hall
  go_enter Tryz.func25, Tryz.ntmps25
  go_wp2_with fail
  go_loop [3, 4] (fun n i => ∃ j v : Nat, j ≤ s.size ∧ i = .int .i64 (j : Int) ∧ n = .int .i64 (v : Int) ∧ v ≤ 4294967296 ∧ Hid (valB (s.data.toList.take j) = v)) (fun _ i => s.size - (intOf i).toNat)
  case atStart => exact ⟨0, 0, Nat.zero_le _, rfl, rfl, by omega, by simp [Hid, valB]⟩
  case round =>
    obtain ⟨j, v, hj, rfl, rfl, hv, hval⟩ := hrel
    by_cases hlt : j < s.size
    · have hkl : j < s.data.toList.length := by rw [HL.out]; exact hlt
      have hb : isBit s[j] = true := List.all_eq_true.1 HA.out _ (List.mem_of_getElem? (i := j) (by rw [List.getElem?_eq_getElem hkl]; rfl))
      have hnx := Lib.hid (valB_take hkl)
      have hn2 := hbd (j + 1) hlt
      rcases bit_val hb with ev | ev
      all_goals
        have he : (s.data.toList[j]).toNat = s[j].toNat := rfl
        have hnv : Hid (valB (s.data.toList.take (j + 1)) = 2 * v + (s[j].toNat - 48)) := by rw [Hid, hnx.out, hval.out, he]
        rw [hnv.out] at hn2
        have hj0 : (0 : Int) ≤ (j : Int) := by omega
        clear hnx he
        go_wp2_with fail
        go_round
        case rel => exact ⟨j + 1, 2 * v + (s[j].toNat - 48), by omega, by go_num, by congr 1; omega, by omega, hnv⟩
        case measure => (simp [intOf]; try omega)
    · obtain rfl : j = s.size := by omega
      go_wp2_with fail
      go_ret
      exact ⟨ret_int (by rw [← hval.out, List.take_of_length_le (by rw [HL.out]; exact Nat.le_refl _)]), rfl⟩
/-- how many ones stand at a (20 at the most) -/
structure OnesAt (s : ByteArray) (a q : Nat) : Prop where
  le : q ≤ 20
  fit : a + q ≤ s.size
  one : ∀ j, j < q → ∀ h : a + j < s.size, s[a + j] = 49
  stop : q = 20 ∨ a + q = s.size ∨ ∃ h : a + q < s.size, ¬ s[a + q] = 49
theorem ones_exist (s : ByteArray) (a : Nat) : ∀ (f j : Nat), 20 - j = f → j ≤ 20 → a + j ≤ s.size → (∀ i, i < j → ∀ h : a + i < s.size, s[a + i] = 49) → ∃ q, OnesAt s a q
  | 0, j, hf, hj, hfit, hone => ⟨j, by omega, hfit, hone, .inl (by omega)⟩
  | f + 1, j, hf, hj, hfit, hone => by
    rcases Nat.lt_or_ge (a + j) s.size with hlt | hge
    · by_cases h : s[a + j] = 49
      · refine ones_exist s a f (j + 1) (by omega) (by omega) (by omega) fun i hi hs => ?_
        rcases Nat.lt_or_ge i j with h1 | h1
        · exact hone i h1 hs
        · obtain rfl : i = j := by omega
          exact h
      · exact ⟨j, hj, hfit, hone, .inr (.inr ⟨hlt, h⟩)⟩
    · exact ⟨j, hj, hfit, hone, .inr (.inl (by omega))⟩
end Go.Proofs.YtinlhigpmchiaaaGreatDoor
namespace Go.Proofs.YtinlhigpmchiaaaGreatDoor
set_option linter.unusedSimpArgs false
set_option linter.unusedVariables false
set_option maxRecDepth 20000
open Go.RowKit
open Go.ChangeShapes Go.WideShapes Go.Deep Go.Joins

def resI (n : Int) : Bool := inB n (-1000000000) 1000000000
theorem isResidual_is {n : Int} {b : Bool} (h : Hid (resI n = b)) (w : World) : Calls Tryz.prog 74 #[.int .i64 n] w fun e w' => e = .returned (.bool b) ∧ w = w' := by
  go_enter Tryz.func74, Tryz.ntmps74
  go_wp2_with (go_at_call 77; refine (within_any _ _ _ _).mono ?_; rintro e w' ⟨rfl, rfl⟩)
  go_ret
  exact ⟨ret_bool h.out, rfl⟩
theorem l04Res_is {n : Int} {b : Bool} (h : Hid (resI n = b)) (w : World) : Calls Tryz.prog 68 #[.int .i64 n] w fun e w' => e = .returned (.bool b) ∧ w = w' := by
  go_enter Tryz.func68, Tryz.ntmps68
  go_wp2_with (go_at_call 53; refine (l00In_any _ _ _ _).mono ?_; rintro e w' ⟨rfl, rfl⟩)
  go_ret
  exact ⟨ret_bool h.out, rfl⟩
theorem unfolded_z {z x : Int} {u : Nat} (hz : z = (u : Int)) (hx : Hid (unfI u = x)) (hu : u ≤ 8589934592) (w : World) : Calls Tryz.prog 73 #[.int .i64 z] w fun e w' => e = .returned (.int .i64 x) ∧ w = w' := by
  rw [hz, ← hx.out]; exact unfolded_any u hu w
theorem l04Unfold_z {z x : Int} {u : Nat} (hz : z = (u : Int)) (hx : Hid (unfI u = x)) (hu : u ≤ 8589934592) (w : World) : Calls Tryz.prog 67 #[.int .i64 z] w fun e w' => e = .returned (.int .i64 x) ∧ w = w' := by
  rw [hz, ← hx.out]; exact l04Unfold_any u hu w
def valAt (s : ByteArray) (f m : Nat) : Nat := valB ((s.data.toList.drop f).take m)
theorem all_drop {p : UInt8 → Bool} {l : List UInt8} (f m : Nat) (h : l.all p = true) : ((l.drop f).take m).all p = true :=
  List.all_eq_true.2 fun x hx => List.all_eq_true.1 h x (List.mem_of_mem_drop (List.mem_of_mem_take hx))
theorem ext_list2 (s : ByteArray) (f t : Nat) : (s.extract f t).data.toList = (s.data.toList.drop f).take (t - f) := by
  rw [ByteArray.data_extract, Array.toList_extract] <;> rfl
theorem ext_end (s : ByteArray) (f : Nat) : (s.extract f s.size).data.toList = s.data.toList.drop f := by
  rw [ext_list2]
  apply List.take_of_length_le
  rw [List.length_drop]
  exact Nat.le_refl _
theorem valAt_bd (s : ByteArray) (f m : Nat) (hall : s.data.toList.all isBit = true) : valAt s f m < 2 ^ m := by
  have h1 := valB_bd (all_drop f m hall)
  have h2 : ((s.data.toList.drop f).take m).length ≤ m := List.length_take_le _ _
  have h3 := Nat.pow_le_pow_right (n := 2) (by omega) h2
  unfold valAt; omega
theorem readNumber_at (s : ByteArray) (hs : s.size ≤ 8388608) (hall : Hid (s.data.toList.all isBit = true)) (f m v : Nat) (hf : f + m ≤ s.size) (h32 : m ≤ 32) (hv : Hid (valAt s f m = v)) (w : World) :
    Calls Tryz.prog 37 #[.string (s.extract f s.size), .int .i64 (m : Int)] w fun e w' => e = .returned (.int .i64 (v : Int)) ∧ w = w' := by
  have hz : (s.extract f s.size).size = s.size - f := by simp
  have h := readNumber_any (s.extract f s.size) m (by omega) h32 (by omega) (by rw [ext_end]; exact List.all_eq_true.2 fun x hx => List.all_eq_true.1 hall.out x (List.mem_of_mem_drop hx)) w
  rw [ext_end, show valB ((s.data.toList.drop f).take m) = v from hv.out] at h
  exact h
theorem l04Value_at (s : ByteArray) (hs : s.size ≤ 8388608) (hall : Hid (s.data.toList.all isBit = true)) (f t m v : Nat) (ht : Hid (f + m = t)) (hf : t ≤ s.size) (h32 : m ≤ 32) (hv : Hid (valAt s f m = v)) (w : World) :
    Calls Tryz.prog 25 #[.string (s.extract f t)] w fun e w' => e = .returned (.int .i64 (v : Int)) ∧ w = w' := by
  have hm : t - f = m := by have := ht.out; omega
  have hz : (s.extract f t).size = t - f := by simp; (try omega)
  have h := l04Value_any (s.extract f t) (by omega) (by rw [ext_list2]; exact all_drop f _ hall.out) w
  rw [ext_list2, hm, show valB ((s.data.toList.drop f).take m) = v from hv.out] at h
  exact h

/-- what a Rice code reads as: the number, the index behind it, a code -/
def riceRd (s : ByteArray) (a k q : Nat) : Int × Int × Int :=
  if q = 20 then
    if s.size < a + q + 32 then (0, 0, 9)
    else if valAt s (a + q) 32 / 2 ^ k < 20 ∨ resI (unfI (valAt s (a + q) 32)) = false then (0, 0, 8)
    else (unfI (valAt s (a + q) 32), ((a + q + 32 : Nat) : Int), 0)
  else if s.size < a + q + 1 + k then (0, 0, 9)
  else (unfI (q * 2 ^ k + valAt s (a + q + 1) k), ((a + q + 1 + k : Nat) : Int), 0)
def ret3 (r : Int × Int × Int) : Ending := .returned (.tuple #[.int .i64 r.1, .int .i64 r.2.1, .int .i64 r.2.2])
theorem ret3_is {s : ByteArray} {a k q : Nat} {x y z : Int} (h : riceRd s a k q = (x, y, z)) : Ending.returned (.tuple #[.int .i64 x, .int .i64 y, .int .i64 z]) = ret3 (riceRd s a k q) := by rw [h]; rfl
theorem rd_long_cut {s : ByteArray} {a k q : Nat} (hq : q = 20) (h : s.size < a + q + 32) : riceRd s a k q = (0, 0, 9) := by rw [riceRd, if_pos hq, if_pos h]
theorem rd_long_bad {s : ByteArray} {a k q : Nat} (hq : q = 20) (h : ¬ s.size < a + q + 32) (h2 : valAt s (a + q) 32 / 2 ^ k < 20 ∨ resI (unfI (valAt s (a + q) 32)) = false) : riceRd s a k q = (0, 0, 8) := by rw [riceRd, if_pos hq, if_neg h, if_pos h2]
theorem rd_long {s : ByteArray} {a k q : Nat} (hq : q = 20) (h : ¬ s.size < a + q + 32) (h2 : ¬ (valAt s (a + q) 32 / 2 ^ k < 20 ∨ resI (unfI (valAt s (a + q) 32)) = false)) : riceRd s a k q = (unfI (valAt s (a + q) 32), ((a + q + 32 : Nat) : Int), 0) := by rw [riceRd, if_pos hq, if_neg h, if_neg h2]
theorem rd_cut {s : ByteArray} {a k q : Nat} (hq : ¬ q = 20) (h : s.size < a + q + 1 + k) : riceRd s a k q = (0, 0, 9) := by rw [riceRd, if_neg hq, if_pos h]
theorem rd_short {s : ByteArray} {a k q : Nat} (hq : ¬ q = 20) (h : ¬ s.size < a + q + 1 + k) : riceRd s a k q = (unfI (q * 2 ^ k + valAt s (a + q + 1) k), ((a + q + 1 + k : Nat) : Int), 0) := by rw [riceRd, if_neg hq, if_neg h]
theorem pow12n {k : Nat} (h : k ≤ 12) : 1 ≤ 2 ^ k ∧ 2 ^ k ≤ 4096 := ⟨Nat.one_le_two_pow, Nat.pow_le_pow_right (n := 2) (by omega) h⟩
theorem pow15n {k : Nat} (h : k ≤ 15) : 1 ≤ 2 ^ k ∧ 2 ^ k ≤ 32768 := ⟨Nat.one_le_two_pow, Nat.pow_le_pow_right (n := 2) (by omega) h⟩
theorem cast_div (v k : Nat) : (v : Int) / 2 ^ k = ((v / 2 ^ k : Nat) : Int) := by simp
theorem cast_mul (q k : Nat) : (q : Int) * 2 ^ k = ((q * 2 ^ k : Nat) : Int) := by simp
set_option maxHeartbeats 3000000 in
theorem readRice_any (s : ByteArray) (hs : s.size ≤ 8388608) (hall : s.data.toList.all isBit = true) (a k q : Nat) (ha : a ≤ s.size) (hk : k ≤ 12) (ho : OnesAt s a q) (w : World) :
    Calls Tryz.prog 58 #[.string s, .int .i64 (a : Int), .int .i64 (k : Int)] w fun e w' => e = ret3 (riceRd s a k q) ∧ Below w.heap.size w w' := by
  have HA := Lib.hid hall
  have HO := Lib.hid ho
  have hq20 := ho.le
  have hfit := ho.fit
  obtain ⟨t, ht⟩ : ∃ t, a + q = t := ⟨_, rfl⟩
  have HT := Lib.hid ht
  rw [ht] at hfit
  clear hall ho ht
  go_enter Tryz.func58, Tryz.ntmps58
  go_wp2_with fail
  go_loop [1, 10] (fun b i => ∃ j p : Nat, j ≤ q ∧ p ≤ t ∧ b = .int .i64 (p : Int) ∧ i = .int .i64 (j : Int) ∧ Hid (a + j = p)) (fun _ i => q - (intOf i).toNat)
  case atStart => exact ⟨0, a, Nat.zero_le _, by have := HT.out; omega, rfl, rfl, rfl⟩
  case round =>
    obtain ⟨j, p, hj, hp, rfl, rfl, hjp⟩ := hrel
    by_cases hlt : j < q
    · have hps : p < s.size := by have := HT.out; have := hjp.out; omega
      have hb : s[p] = 49 := by
        have h1 := HO.out.one j hlt (by rw [hjp.out]; exact hps)
        have h2 := hjp.out
        subst h2
        exact h1
      have ev : (s[p].toNat : Int) = 49 := by rw [hb]; rfl
      have hj20 : (j : Int) < 20 := by omega
      have hnx : Hid (a + (j + 1) = p + 1) := by have := hjp.out; rw [Hid]; omega
      have hpt : p + 1 ≤ t := by have := HT.out; have := hjp.out; omega
      clear hb
      go_wp2_with fail
      go_round
      case rel => exact ⟨j + 1, p + 1, hlt, hpt, by go_num, by go_num, hnx⟩
      case measure => (simp [intOf]; try omega)
    · obtain rfl : j = q := by omega
      obtain rfl : p = t := by have := HT.out; have := hjp.out; omega
      by_cases hq : j = 20
      · obtain rfl : j = 20 := hq
        have HQ := Lib.hid (show (20 : Nat) = 20 from rfl)
        rcases Nat.lt_or_ge s.size (p + 32) with hcut | hlong
        · have hr := Lib.hid (ret3_is (rd_long_cut (s := s) (a := a) (k := k) (q := 20) rfl (by rw [HT.out]; exact hcut)))
          rcases Nat.lt_or_ge p s.size with hps | hps
          · by_cases hb : s[p] = 49
            · have ev : (s[p].toNat : Int) = 49 := by rw [hb]; rfl
              clear hb
              go_wp2_with fail
              refine bodyPost_ret (by simp [results, Tryz.results58, go_sem, *]; try rfl) rfl ?_
              exact ⟨hr.out, Below.refl _ _⟩
            · have ev : ((s[p].toNat : Int) == 49) = false := beq_eq_false_iff_ne.2 fun e => hb (by apply UInt8.toNat_inj.1; show _ = 49; omega)
              clear hb
              go_wp2_with fail
              refine bodyPost_ret (by simp [results, Tryz.results58, go_sem, *]; try rfl) rfl ?_
              exact ⟨hr.out, Below.refl _ _⟩
          · obtain rfl : p = s.size := by omega
            go_wp2_with fail
            refine bodyPost_ret (by simp [results, Tryz.results58, go_sem, *]; try rfl) rfl ?_
            exact ⟨hr.out, Below.refl _ _⟩
        · obtain ⟨u, hu⟩ : ∃ u, valAt s p 32 = u := ⟨_, rfl⟩
          have hub : u < 4294967296 := by rw [← hu]; exact valAt_bd s p 32 HA.out
          obtain ⟨x, hx⟩ : ∃ x, unfI u = x := ⟨_, rfl⟩
          obtain ⟨d, hd⟩ : ∃ d, u / 2 ^ k = d := ⟨_, rfl⟩
          have hdi : (u : Int) / 2 ^ k = (d : Int) := by rw [cast_div, hd]
          have HU := Lib.hid hu
          have HX := Lib.hid hx
          have hps : p < s.size := by omega
          have hsub := readNumber_at s hs HA p 32 u hlong (by omega) HU
          have ev : Hid ((s[p].toNat : Int) = 49 ∨ ((s[p].toNat : Int) == 49) = false) := by
            rw [Hid]
            by_cases e : (s[p].toNat : Int) = 49
            · exact .inl e
            · exact .inr (beq_eq_false_iff_ne.2 e)
          have HSUB := Lib.hid hsub
          clear hsub
          cases hres : resI x
          · have hr := Lib.hid (ret3_is (rd_long_bad (s := s) (a := a) (k := k) (q := 20) rfl (by rw [HT.out]; omega) (by rw [HT.out, hu, hx]; exact .inr hres)))
            have HR := Lib.hid hres
            clear hres hu hx hd
            rcases ev.out with ev2 | ev2
            all_goals
              go_wp2_with (first | (go_at_call 37; refine (HSUB.out _).mono ?_; rintro e w' ⟨rfl, rfl⟩) | (go_at_call 73; refine (unfolded_z rfl HX (by omega) _).mono ?_; rintro e w' ⟨rfl, rfl⟩) | (go_at_call 74; refine (isResidual_is HR _).mono ?_; rintro e w' ⟨rfl, rfl⟩))
              refine bodyPost_ret (by simp [results, Tryz.results58, go_sem, *]; try rfl) rfl ?_
              exact ⟨hr.out, Below.refl _ _⟩
          · rcases Nat.lt_or_ge d 20 with hd20 | hd20
            · have hr := Lib.hid (ret3_is (rd_long_bad (s := s) (a := a) (k := k) (q := 20) rfl (by rw [HT.out]; omega) (by rw [HT.out, hu, hd]; exact .inl hd20)))
              have HR := Lib.hid hres
              clear hres hu hx hd
              rcases ev.out with ev2 | ev2
              all_goals
                go_wp2_with (first | (go_at_call 37; refine (HSUB.out _).mono ?_; rintro e w' ⟨rfl, rfl⟩) | (go_at_call 73; refine (unfolded_z rfl HX (by omega) _).mono ?_; rintro e w' ⟨rfl, rfl⟩) | (go_at_call 74; refine (isResidual_is HR _).mono ?_; rintro e w' ⟨rfl, rfl⟩))
                refine bodyPost_ret (by simp [results, Tryz.results58, go_sem, *]; try rfl) rfl ?_
                exact ⟨hr.out, Below.refl _ _⟩
            · have hr := Lib.hid (ret3_is (rd_long (s := s) (a := a) (k := k) (q := 20) rfl (by rw [HT.out]; omega) (by rw [HT.out, hu, hx, hd, hres]; simp; omega)))
              rw [HT.out, hu, hx] at hr
              have HR := Lib.hid hres
              clear hres hu hx hd
              rcases ev.out with ev2 | ev2
              all_goals
                go_wp2_with (first | (go_at_call 37; refine (HSUB.out _).mono ?_; rintro e w' ⟨rfl, rfl⟩) | (go_at_call 73; refine (unfolded_z rfl HX (by omega) _).mono ?_; rintro e w' ⟨rfl, rfl⟩) | (go_at_call 74; refine (isResidual_is HR _).mono ?_; rintro e w' ⟨rfl, rfl⟩))
                refine bodyPost_ret (by simp [results, Tryz.results58, go_sem, *]; try rfl) rfl ?_
                exact ⟨hr.out, Below.refl _ _⟩
      · have hq20b : j < 20 := by omega
        have hji : (j : Int) < 20 := by omega
        have hjne : ((j : Int) == 20) = false := by rw [beq_eq_false_iff_ne]; omega
        obtain ⟨P, hP⟩ : ∃ P, j * 2 ^ k = P := ⟨_, rfl⟩
        obtain ⟨pk1, pk2⟩ := pow12n hk
        have hPb : P ≤ 81920 := by
          rw [← hP]
          exact Nat.le_trans (Nat.mul_le_mul (Nat.le_of_lt hq20b) pk2) (by omega)
        have hsh : IntKind.i64.wrap ((j : Int) * 2 ^ k) = (P : Int) := by rw [cast_mul, hP]; exact IntWalk.i64_in _ (by omega)
        rcases Nat.lt_or_ge s.size (p + 1 + k) with hcut | hlong
        · have hr := Lib.hid (ret3_is (rd_cut (s := s) (a := a) (k := k) (q := j) hq (by rw [HT.out]; exact hcut)))
          rcases Nat.lt_or_ge p s.size with hps | hps
          · have hb : ¬ s[p] = 49 := by
              rcases HO.out.stop with h | h | ⟨h, h2⟩
              · exact absurd h hq
              · have := HT.out; omega
              · intro e
                have h3 := HT.out
                subst h3
                exact h2 e
            have ev : ((s[p].toNat : Int) == 49) = false := beq_eq_false_iff_ne.2 fun e => hb (by apply UInt8.toNat_inj.1; show _ = 49; omega)
            clear hb hP
            go_wp2_with fail
            refine bodyPost_ret (by simp [results, Tryz.results58, go_sem, *]; try rfl) rfl ?_
            exact ⟨hr.out, Below.refl _ _⟩
          · obtain rfl : p = s.size := by omega
            clear hP
            go_wp2_with fail
            refine bodyPost_ret (by simp [results, Tryz.results58, go_sem, *]; try rfl) rfl ?_
            exact ⟨hr.out, Below.refl _ _⟩
        · have hps : p < s.size := by omega
          have hb : ¬ s[p] = 49 := by
            rcases HO.out.stop with h | h | ⟨h, h2⟩
            · exact absurd h hq
            · have := HT.out; omega
            · intro e
              have h3 := HT.out
              subst h3
              exact h2 e
          have ev : ((s[p].toNat : Int) == 49) = false := beq_eq_false_iff_ne.2 fun e => hb (by apply UInt8.toNat_inj.1; show _ = 49; omega)
          obtain ⟨v, hv⟩ : ∃ v, valAt s (p + 1) k = v := ⟨_, rfl⟩
          have hvb : v < 4096 := by
            have := valAt_bd s (p + 1) k HA.out
            omega
          obtain ⟨x, hx⟩ : ∃ x, unfI (P + v) = x := ⟨_, rfl⟩
          have hr := ret3_is (rd_short (s := s) (a := a) (k := k) (q := j) hq (by rw [HT.out]; omega))
          rw [HT.out, hv, hP, hx] at hr
          have hr := Lib.hid hr
          have HV := Lib.hid hv
          have HX := Lib.hid hx
          have HSUB := Lib.hid (readNumber_at s hs HA (p + 1) k v hlong (by omega) HV)
          clear hb hP hv hx
          go_wp2_with fail
          go_quiet ((first | (go_at_call 37; first | with_reducible exact quiet_mine (HSUB.out _) | with_reducible exact quiet_mine2 (HSUB.out _)) | (go_at_call 73; first | with_reducible exact quiet_mine (unfolded_z (Int.natCast_add P v).symm HX (by omega) _) | with_reducible exact quiet_mine2 (unfolded_z (Int.natCast_add P v).symm HX (by omega) _))))
          go_wp2_with fail
          refine bodyPost_ret (by simp [results, Tryz.results58, go_sem, *]; try rfl) rfl ?_
          exact ⟨hr.out, below_drewN (Below.refl _ _) _⟩
end Go.Proofs.YtinlhigpmchiaaaGreatDoor
namespace Go.Proofs.YtinlhigpmchiaaaGreatDoor
set_option linter.unusedSimpArgs false
set_option linter.unusedVariables false
set_option maxRecDepth 20000
open Go.RowKit
open Go.ChangeShapes Go.WideShapes Go.Deep Go.Joins

set_option maxHeartbeats 3000000 in
theorem l04Read_any (s : ByteArray) (hs : s.size ≤ 8388608) (hall : s.data.toList.all isBit = true) (a k q : Nat) (ha : a ≤ s.size) (hk : k ≤ 15) (ho : OnesAt s a q) (w : World) :
    Calls Tryz.prog 50 #[.string s, .int .i64 (a : Int), .int .i64 (k : Int)] w fun e w' => e = ret3 (riceRd s a k q) ∧ Below w.heap.size w w' := by
  have HA := Lib.hid hall
  have HO := Lib.hid ho
  have hq20 := ho.le
  have hfit := ho.fit
  obtain ⟨t, ht⟩ : ∃ t, a + q = t := ⟨_, rfl⟩
  have HT := Lib.hid ht
  have hti : (a : Int) + (q : Int) = (t : Int) := by omega
  rw [ht] at hfit
  have hw0 : IntKind.u64.wrap (k : Int) = k := IntWalk.u64_in _ (by omega)
  have hmin : min k 64 = k := by omega
  clear hall ho ht
  go_enter Tryz.func50, Tryz.ntmps50
  go_wp2_with fail
  go_loop [10] (fun i => ∃ j : Nat, j ≤ q ∧ i = .int .i64 (j : Int)) (fun i => q - (intOf i).toNat)
  case atStart => exact ⟨0, Nat.zero_le _, rfl⟩
  case round =>
    obtain ⟨j, hj, rfl⟩ := hrel
    by_cases hlt : j < q
    · obtain ⟨p, hp⟩ : ∃ p, a + j = p := ⟨_, rfl⟩
      have hpi : (a : Int) + (j : Int) = (p : Int) := by omega
      have hps : p < s.size := by have := HT.out; omega
      have hb : s[p] = 49 := by
        have h1 := HO.out.one j hlt (by rw [hp]; exact hps)
        subst hp
        exact h1
      have ev : (s[p].toNat : Int) = 49 := by rw [hb]; rfl
      have hj20 : (j : Int) < 20 := by omega
      clear hb hp hti
      go_wp2_with fail
      go_round
      case rel => exact ⟨j + 1, hlt, by go_num⟩
      case measure => (simp [intOf]; try omega)
    · obtain rfl : j = q := by omega
      by_cases hq : j = 20
      · obtain rfl : j = 20 := hq
        have hti2 : (a : Int) + 20 = (t : Int) := hti
        clear hti
        rcases Nat.lt_or_ge s.size (t + 32) with hcut | hlong
        · have hr := Lib.hid (ret3_is (rd_long_cut (s := s) (a := a) (k := k) (q := 20) rfl (by rw [HT.out]; exact hcut)))
          have hgt : (t : Int) + 32 > (s.size : Int) := by omega
          go_wp2_with fail
          refine bodyPost_ret (by simp [results, Tryz.results50, go_sem, *]; try rfl) rfl ?_
          exact ⟨hr.out, Below.refl _ _⟩
        · obtain ⟨u, hu⟩ : ∃ u, valAt s t 32 = u := ⟨_, rfl⟩
          have hub : u < 4294967296 := by rw [← hu]; exact valAt_bd s t 32 HA.out
          obtain ⟨x, hx⟩ : ∃ x, unfI u = x := ⟨_, rfl⟩
          obtain ⟨d, hd⟩ : ∃ d, u / 2 ^ k = d := ⟨_, rfl⟩
          have hdi : (u : Int) / 2 ^ k = (d : Int) := by rw [cast_div, hd]
          have HU := Lib.hid hu
          have HX := Lib.hid hx
          have HSUB := Lib.hid (l04Value_at s hs HA t (t + 32) 32 u rfl hlong (by omega) HU)
          cases hres : resI x
          · have hr := Lib.hid (ret3_is (rd_long_bad (s := s) (a := a) (k := k) (q := 20) rfl (by rw [HT.out]; omega) (by rw [HT.out, hu, hx]; exact .inr hres)))
            have HR := Lib.hid hres
            clear hres hu hx hd
            rcases Nat.lt_or_ge d 20 with hd20 | hd20
            all_goals
              go_wp2_with (first | (go_at_call 25; refine (HSUB.out _).mono ?_; rintro e w' ⟨rfl, rfl⟩) | (go_at_call 67; refine (l04Unfold_z rfl HX (by omega) _).mono ?_; rintro e w' ⟨rfl, rfl⟩) | (go_at_call 68; refine (l04Res_is HR _).mono ?_; rintro e w' ⟨rfl, rfl⟩))
              refine bodyPost_ret (by simp [results, Tryz.results50, go_sem, *]; try rfl) rfl ?_
              exact ⟨hr.out, Below.refl _ _⟩
          · rcases Nat.lt_or_ge d 20 with hd20 | hd20
            · have hr := Lib.hid (ret3_is (rd_long_bad (s := s) (a := a) (k := k) (q := 20) rfl (by rw [HT.out]; omega) (by rw [HT.out, hu, hd]; exact .inl hd20)))
              have HR := Lib.hid hres
              clear hres hu hx hd
              go_wp2_with (first | (go_at_call 25; refine (HSUB.out _).mono ?_; rintro e w' ⟨rfl, rfl⟩) | (go_at_call 67; refine (l04Unfold_z rfl HX (by omega) _).mono ?_; rintro e w' ⟨rfl, rfl⟩) | (go_at_call 68; refine (l04Res_is HR _).mono ?_; rintro e w' ⟨rfl, rfl⟩))
              refine bodyPost_ret (by simp [results, Tryz.results50, go_sem, *]; try rfl) rfl ?_
              exact ⟨hr.out, Below.refl _ _⟩
            · have hr := Lib.hid (ret3_is (rd_long (s := s) (a := a) (k := k) (q := 20) rfl (by rw [HT.out]; omega) (by rw [HT.out, hu, hx, hd, hres]; simp; omega)))
              rw [HT.out, hu, hx] at hr
              have HR := Lib.hid hres
              clear hres hu hx hd
              go_wp2_with (first | (go_at_call 25; refine (HSUB.out _).mono ?_; rintro e w' ⟨rfl, rfl⟩) | (go_at_call 67; refine (l04Unfold_z rfl HX (by omega) _).mono ?_; rintro e w' ⟨rfl, rfl⟩) | (go_at_call 68; refine (l04Res_is HR _).mono ?_; rintro e w' ⟨rfl, rfl⟩))
              refine bodyPost_ret (by simp [results, Tryz.results50, go_sem, *]; try rfl) rfl ?_
              exact ⟨hr.out, Below.refl _ _⟩
      · have hq20b : j < 20 := by omega
        have hji : (j : Int) < 20 := by omega
        have hjne : ((j : Int) == 20) = false := by rw [beq_eq_false_iff_ne]; omega
        obtain ⟨P, hP⟩ : ∃ P, j * 2 ^ k = P := ⟨_, rfl⟩
        obtain ⟨pk1, pk2⟩ := pow15n hk
        have hPb : P ≤ 655360 := by
          rw [← hP]
          exact Nat.le_trans (Nat.mul_le_mul (Nat.le_of_lt hq20b) pk2) (by omega)
        have hsh : IntKind.i64.wrap ((j : Int) * 2 ^ k) = (P : Int) := by rw [cast_mul, hP]; exact IntWalk.i64_in _ (by omega)
        have hb : Hid (∀ h : t < s.size, ((s[t].toNat : Int) == 49) = false) := by
          intro hps
          rw [beq_eq_false_iff_ne]
          intro e
          rcases HO.out.stop with h | h | ⟨h, h2⟩
          · exact absurd h hq
          · have := HT.out; omega
          · have h3 := HT.out
            subst h3
            exact h2 (by apply UInt8.toNat_inj.1; show _ = 49; omega)
        rcases Nat.lt_or_ge s.size (t + 1 + k) with hcut | hlong
        · have hr := Lib.hid (ret3_is (rd_cut (s := s) (a := a) (k := k) (q := j) hq (by rw [HT.out]; exact hcut)))
          have hgt : (t : Int) + 1 + (k : Int) > (s.size : Int) := by omega
          clear hP
          rcases Nat.lt_or_ge t s.size with hps | hps
          · have ev := hb.out hps
            go_wp2_with fail
            refine bodyPost_ret (by simp [results, Tryz.results50, go_sem, *]; try rfl) rfl ?_
            exact ⟨hr.out, Below.refl _ _⟩
          · go_wp2_with fail
            refine bodyPost_ret (by simp [results, Tryz.results50, go_sem, *]; try rfl) rfl ?_
            exact ⟨hr.out, Below.refl _ _⟩
        · have hps : t < s.size := by omega
          have ev := hb.out hps
          obtain ⟨v, hv⟩ : ∃ v, valAt s (t + 1) k = v := ⟨_, rfl⟩
          have hvb : v < 32768 := by
            have := valAt_bd s (t + 1) k HA.out
            omega
          obtain ⟨x, hx⟩ : ∃ x, unfI (P + v) = x := ⟨_, rfl⟩
          have hr := ret3_is (rd_short (s := s) (a := a) (k := k) (q := j) hq (by rw [HT.out]; omega))
          rw [HT.out, hv, hP, hx] at hr
          have hr := Lib.hid hr
          have HV := Lib.hid hv
          have HX := Lib.hid hx
          have HSUB := Lib.hid (l04Value_at s hs HA (t + 1) (t + 1 + k) k v rfl hlong (by omega) HV)
          clear hP hv hx
          go_wp2_with (first | (go_at_call 25; refine (HSUB.out _).mono ?_; rintro e w' ⟨rfl, rfl⟩) | (go_at_call 67; refine (l04Unfold_z (Int.natCast_add P v).symm HX (by omega) _).mono ?_; rintro e w' ⟨rfl, rfl⟩))
          refine bodyPost_ret (by simp [results, Tryz.results50, go_sem, *]; try rfl) rfl ?_
          exact ⟨hr.out, Below.refl _ _⟩
end Go.Proofs.YtinlhigpmchiaaaGreatDoor
namespace Go.Proofs.YtinlhigpmchiaaaGreatDoor
set_option linter.unusedSimpArgs false
set_option linter.unusedVariables false
set_option maxRecDepth 20000
open Go.RowKit
open Go.ChangeShapes Go.WideShapes Go.Deep Go.Joins

theorem areBits_is {s : ByteArray} {b : Bool} (h : Hid (bitsOk s = b)) (hs : s.size ≤ 1048576) (w : World) :
    Calls Tryz.prog 65 #[.string s] w fun e w' => e = .returned (.bool b) ∧ Below w.heap.size w w' := by
  rw [← h.out]; exact areBits_any s hs w
theorem inB_is {n low high : Int} {b : Bool} (h : Hid (inB n low high = b)) (w : World) :
    Calls Tryz.prog 77 #[.int .i64 n, .int .i64 low, .int .i64 high] w fun e w' => e = .returned (.bool b) ∧ w = w' := by
  rw [← h.out]; exact within_any n low high w
theorem inB_isS {n low high : Int} {b : Bool} (h : Hid (inB n low high = b)) (w : World) :
    Calls Tryz.prog 53 #[.int .i64 n, .int .i64 low, .int .i64 high] w fun e w' => e = .returned (.bool b) ∧ w = w' := by
  rw [← h.out]; exact l00In_any n low high w
theorem bitsOk_all {s : ByteArray} (h : bitsOk s = true) : s.data.toList.all isBit = true := by
  rw [bitsOk, Bool.and_eq_true] at h; exact h.2
/-- what ReadRice answers -/
inductive RiceR (s : ByteArray) (at' k : Int) : Int × Int × Int → Prop
  | bad : bitsOk s = false → RiceR s at' k (0, 0, 7)
  | out : bitsOk s = true → (inB k 0 12 = false ∨ inB k 0 12 = true ∧ inB at' 0 (s.size : Int) = false) → RiceR s at' k (0, 0, 2)
  | ok (a kk q : Nat) : bitsOk s = true → at' = (a : Int) → k = (kk : Int) → a ≤ s.size → kk ≤ 12 → OnesAt s a q → RiceR s at' k (riceRd s a kk q)
theorem riceR_exists (s : ByteArray) (at' k : Int) : ∃ R, RiceR s at' k R := by
  cases h : bitsOk s
  · exact ⟨_, .bad h⟩
  · cases hk : inB k 0 12
    · exact ⟨_, .out h (.inl hk)⟩
    · cases ha : inB at' 0 (s.size : Int)
      · exact ⟨_, .out h (.inr ⟨hk, ha⟩)⟩
      · have h1 := inB_true hk
        have h2 := inB_true ha
        obtain ⟨a, e⟩ : ∃ a : Nat, at' = (a : Int) := ⟨at'.toNat, by omega⟩
        obtain ⟨kk, e2⟩ : ∃ kk : Nat, k = (kk : Int) := ⟨k.toNat, by omega⟩
        obtain ⟨q, hq⟩ := ones_exist s a 20 0 (by omega) (by omega) (by omega) (by omega)
        exact ⟨_, .ok a kk q h e e2 (by omega) (by omega) hq⟩
end Go.Proofs.YtinlhigpmchiaaaGreatDoor
namespace Go.Proofs.YtinlhigpmchiaaaGreatDoor
set_option linter.unusedSimpArgs false
set_option linter.unusedVariables false
set_option maxRecDepth 20000
open Go.RowKit
open Go.ChangeShapes Go.WideShapes Go.Deep Go.Joins

def orB (b : UInt8) (r : Nat) : UInt8 := UInt8.ofNat (bits .or .u8 (b.toNat : Int) (128 / 2 ^ r)).toNat
theorem orB_fin : ∀ (a : Fin 256) (r : Fin 8), 0 ≤ bits BinOp.or IntKind.u8 (a.val : Int) (128 / 2 ^ r.val) ∧ bits BinOp.or IntKind.u8 (a.val : Int) (128 / 2 ^ r.val) < 256 := by decide +kernel
theorem orB_is (b : UInt8) (r : Nat) (hr : r < 8) : bits .or .u8 (b.toNat : Int) (128 / 2 ^ r) = ((orB b r).toNat : Int) := by
  obtain ⟨h0, h1⟩ := orB_fin ⟨b.toNat, b.toNat_lt⟩ ⟨r, hr⟩
  simp only at h0 h1
  unfold orB
  rw [UInt8.toNat_ofNat']
  omega
/-- the bytes behind k bits -/
def packTo (s : ByteArray) : Nat → List UInt8
  | 0 => List.replicate ((s.size + 7) / 8) 0
  | k + 1 => if s.data.toList[k]? = some 49 then (packTo s k).set (k / 8) (orB ((packTo s k).getD (k / 8) 0) (k % 8)) else packTo s k
theorem packTo_len (s : ByteArray) (k : Nat) : (packTo s k).length = (s.size + 7) / 8 := by
  induction k with
  | zero => rw [packTo, List.length_replicate]
  | succ k ih => rw [packTo]; split <;> simp [ih]
theorem at_list {s : ByteArray} {k : Nat} (h : k < s.size) : s.data.toList[k]? = some s[k] := by
  rw [Array.getElem?_toList, Array.getElem?_eq_getElem h]; rfl
theorem packTo_one {s : ByteArray} {k j r : Nat} {b : UInt8} {l : List UInt8} (h : k < s.size) (h1 : s[k] = 49) (hl : packTo s k = l) (hj : k / 8 = j) (hr : k % 8 = r) (hb : l[j]? = some b) : packTo s (k + 1) = l.set j (orB b r) := by
  rw [packTo, at_list h, h1, if_pos rfl, hl, hj, hr, List.getD_eq_getElem?_getD, hb]; rfl
theorem packTo_zero {s : ByteArray} {k : Nat} (h : k < s.size) (h1 : ¬ s[k] = 49) : packTo s (k + 1) = packTo s k := by
  rw [packTo, at_list h, if_neg (by simpa using h1)]
theorem cells_made (n : Nat) : madeCells (Value.int .u8 0).cells (n * 1) = (byteRow (List.replicate n 0)).toArray := by
  rw [Nat.mul_one]
  apply Array.ext'
  rw [List.toList_toArray]
  simp [madeCells, Value.cells, byteRow, Nat.mod_one]
  rw [List.map_const', List.length_range]
theorem row_set (l : List UInt8) (j : Nat) (b : UInt8) : (byteRow l).toArray.setIfInBounds j (.int .u8 (b.toNat : Int)) = (byteRow (l.set j b)).toArray := by
  apply Array.ext'
  rw [Array.toList_setIfInBounds]
  simp [byteRow, List.map_set]
theorem row_at {l : List UInt8} {j : Nat} {b : UInt8} (h : l[j]? = some b) : (byteRow l).toArray[j]? = some (.int .u8 (b.toNat : Int)) := by
  simp [byteRow, h]
theorem string_of_bk {w : World} {g n : Nat} {l : List UInt8} (h : Bk w g 5 (byteRow l).toArray) (hn : l.length = n) :
    (convert 54 9 (.slice (some ⟨g, 0, none⟩) n n)).run Tryz.prog w = .ok (.string ⟨l.toArray⟩) w := by
  subst hn
  refine run_convert_bytes_back w _ _ 5 _ _ l Tryz.underlying54 Tryz.underlying5 Tryz.underlying9 fun j hj => ?_
  have h1 := h.cell j
  rw [row_at (List.getElem?_eq_getElem hj)] at h1
  rw [show (⟨g, 0, none⟩ : Addr).add j = ⟨g, j, none⟩ by simp [Addr.add]; omega]
  simpa using h1
set_option maxHeartbeats 2000000 in
theorem l04Pack_any (s : ByteArray) (hs : s.size ≤ 1048576) (w : World) :
    Calls Tryz.prog 32 #[.string s] w fun e w' => e = .returned (.string ⟨(packTo s s.size).toArray⟩) ∧ Below w.heap.size w w' := by
  obtain ⟨i0, hi0, hz0, hz1, hz2⟩ := info_parts byte_info
  obtain ⟨n, hn⟩ : ∃ n, (s.size + 7) / 8 = n := ⟨_, rfl⟩
  have hmk := make_rows (P := Tryz.prog) 54 5 i0 _ Tryz.underlying54 hi0 hz0 .i64 .i64 n (by rw [hz2]; omega) (by omega)
  rw [hz1, cells_made] at hmk
  have hdi : ((s.size : Int) + 7) / 8 = (n : Int) := by omega
  have HN := Lib.hid hn
  clear hn
  go_enter Tryz.func32, Tryz.ntmps32
  go_wp2_with fail
  go_loopw [4] (fun i wr => ∃ (k : Nat) (l : List UInt8), k ≤ s.size ∧ i = .int .i64 (k : Int) ∧ Hid (packTo s k = l) ∧ Bk wr w.heap.size 5 (byteRow l).toArray ∧ Below w.heap.size w wr) (fun i _ => s.size - (intOf i).toNat)
  case atStart => exact ⟨0, List.replicate n 0, Nat.zero_le _, rfl, by rw [Hid, packTo, HN.out], heap_alloc_new w _, by go_grown⟩
  case round =>
    obtain ⟨k, l, hk, rfl, hl, hbk, hW⟩ := hrel
    have HB := Lib.hid hbk
    have hgl := hbk.lt
    clear hbk
    by_cases hlt : k < s.size
    · by_cases hone : s[k] = 49
      · obtain ⟨j, hj⟩ : ∃ j, k / 8 = j := ⟨_, rfl⟩
        obtain ⟨r, hr⟩ : ∃ r, k % 8 = r := ⟨_, rfl⟩
        have hll : l.length = n := by rw [← hl.out, packTo_len, HN.out]
        have hjn : j < n := by have := HN.out; omega
        obtain ⟨b, hb⟩ : ∃ b, l[j]? = some b := ⟨_, List.getElem?_eq_getElem (by omega)⟩
        have hnx := Lib.hid (packTo_one hlt hone hl.out hj hr hb)
        have c1 : wr.cell? ⟨w.heap.size, j, none⟩ = some (.int .u8 (b.toNat : Int)) := (HB.out.cell j).trans (row_at hb)
        have f1 := HB.out.frozen j
        have hji : (k : Int) / 8 = (j : Int) := by omega
        have hri : (k : Int) % 8 = (r : Int) := by omega
        have hr8 : r < 8 := by omega
        have hw0 : IntKind.u64.wrap (r : Int) = r := IntWalk.u64_in _ (by omega)
        have hor := orB_is b r hr8
        have ev : (s[k].toNat : Int) = 49 := by rw [hone]; rfl
        have HX := Lib.hid (row_set l j (orB b r))
        obtain ⟨x, hx⟩ : ∃ x, (orB b r) = x := ⟨_, rfl⟩
        rw [hx] at hor hnx HX
        clear hone hj hr hb hx hll
        go_wp2_with fail
        go_roundw
        case rel => exact ⟨k + 1, l.set j x, by omega, by go_num, hnx, by rw [← HX.out]; exact HB.out.put _ _, by go_grown⟩
        case measure => (simp [intOf]; try omega)
      · have ev : ((s[k].toNat : Int) == 49) = false := beq_eq_false_iff_ne.2 fun e => hone (by apply UInt8.toNat_inj.1; show _ = 49; omega)
        have hnx := Lib.hid ((packTo_zero hlt hone).trans hl.out)
        clear hone
        go_wp2_with fail
        go_roundw
        case rel => exact ⟨k + 1, l, by omega, by go_num, hnx, HB.out, hW⟩
        case measure => (simp [intOf]; try omega)
    · obtain rfl : k = s.size := by omega
      have hll : Hid (l.length = n) := by rw [Hid, ← hl.out, packTo_len, HN.out]
      have hcv := string_of_bk HB.out hll.out
      go_wp2_with fail
      go_ret
      exact ⟨ret_str (by rw [hl.out]), hW⟩
end Go.Proofs.YtinlhigpmchiaaaGreatDoor
