/-
  Names: program and reference ask the same of every byte.
-/
import Derived.Test.YtmdmjnhebbhjbaaWord
namespace Go.Proofs.Ytmdmjnhebbhjbaa
set_option maxRecDepth 20000
set_option linter.unusedSimpArgs false
set_option linter.unusedVariables false
open Go.RowKit

def okB (c : UInt8) : Bool := letB c.toNat || digB c.toNat || decide (c.toNat = 45)
def nameB (l : List UInt8) : Bool := match l with
  | [] => false
  | c :: r => decide (r.length ≤ 11) && letB c.toNat && (c :: r).all okB
theorem okB_not {c : UInt8} (h1 : letB c.toNat = false) (h2 : digB c.toNat = false) (h3 : ¬ c.toNat = 45) : okB c = false := by simp [okB, h1, h2, h3]
theorem okB_let {c : UInt8} (h1 : letB c.toNat = true) : okB c = true := by simp [okB, h1]
theorem okB_dig {c : UInt8} (h1 : digB c.toNat = true) : okB c = true := by simp [okB, h1]
theorem okB_dash {c : UInt8} (h1 : c.toNat = 45) : okB c = true := by simp [okB, h1]
theorem nameB_none {s : ByteArray} (h : s.size = 0) : nameB s.data.toList = false := by
  have : s.data.toList = [] := List.eq_nil_of_length_eq_zero (by simpa using h)
  rw [this]; rfl
theorem list_of (s : ByteArray) (h : 0 < s.size) : ∃ r, s.data.toList = s[0] :: r ∧ r.length + 1 = s.size := by
  have hl : s.data.toList.length = s.size := by simp
  cases hs : s.data.toList with
  | nil => rw [hs] at hl; simp at hl; omega
  | cons c r =>
    refine ⟨r, ?_, by rw [hs] at hl; simpa using hl⟩
    have : s[0] = s.data.toList[0]'(by rw [hl]; exact h) := rfl
    rw [this]
    simp [hs]
theorem nameB_long {s : ByteArray} (h : 12 < s.size) : nameB s.data.toList = false := by
  obtain ⟨r, hr, hl⟩ := list_of s (by omega)
  rw [hr]
  simp only [nameB]
  rw [decide_eq_false (by omega)]; rfl
theorem nameB_first {s : ByteArray} (h0 : 0 < s.size) (h : letB (s[0].toNat : Int) = false) : nameB s.data.toList = false := by
  obtain ⟨r, hr, hl⟩ := list_of s (by omega)
  rw [hr]
  simp [nameB, h]
theorem nameB_rest {s : ByteArray} (h0 : 0 < s.size) (h1 : s.size ≤ 12) (h : letB (s[0].toNat : Int) = true) : nameB s.data.toList = s.data.toList.all okB := by
  obtain ⟨r, hr, hl⟩ := list_of s (by omega)
  rw [hr]
  simp only [nameB]
  rw [h, decide_eq_true (by omega)]; rfl

set_option maxHeartbeats 800000 in
theorem iIsName (s : ByteArray) (w : World) (hs : s.size ≤ 1048576) :
    Calls Try.prog 25 #[.string s] w fun e w' => e = .returned (.bool (nameB s.data.toList)) ∧ Below w.heap.size w w' := by
  by_cases h0 : 0 < s.size
  · by_cases h12 : s.size ≤ 12
    · cases h1 : letB (s[0].toNat : Int)
      · go_enter Try.func25, Try.ntmps25
        go_wp2_with (go_at_call 50; refine (isLetter_any _ _).mono ?_; rintro e w' ⟨rfl, rfl⟩)
        go_ret
        exact ⟨ret_bool (nameB_first h0 h1).symm, Below.refl _ _⟩
      · obtain ⟨c, W1, hconv, hb1, hz, hc⟩ := bytes_of w s Try.underlying9 Try.underlying87 Try.underlying5
        have HC := Lib.hid hc
        clear hc
        go_enter Try.func25, Try.ntmps25
        go_wp2_with (go_at_call 50; refine (isLetter_any _ _).mono ?_; rintro e w' ⟨rfl, rfl⟩)
        go_loop [22] (fun i => ∃ k : Nat, k ≤ s.size ∧ i = .int .i64 k ∧ Hid ((s.data.toList.take k).all okB = true)) (fun i => s.size - (intOf i).toNat)
        case atStart => exact ⟨0, Nat.zero_le _, rfl, by simp [Hid]⟩
        case round =>
          obtain ⟨k, hk, rfl, ha⟩ := hrel
          by_cases hlt : k < s.size
          · have hck := HC.out k hlt
            cases hb : letB s[k].toNat
            · cases hd1 : decide (48 ≤ (s[k].toNat : Int)) <;> cases hd2 : decide ((s[k].toNat : Int) ≤ 57) <;> cases hd3 : ((s[k].toNat : Int) != 45)
              all_goals go_wp2_with (go_at_call 50; refine (isLetter_any _ _).mono ?_; rintro e w' ⟨rfl, rfl⟩)
              all_goals simp at hd1 hd2 hd3
              all_goals
                first
                  | (go_round
                     case rel => exact ⟨k + 1, by omega, by go_num, all_more (p := okB) s k hlt ha.out (by first | exact okB_dash (by omega) | exact okB_dig (decide_eq_true (by omega)))⟩
                     case measure => simp [intOf]; omega)
                  | (go_ret
                     exact ⟨ret_bool (by rw [nameB_rest h0 h12 h1, all_stop (p := okB) s k hlt (okB_not hb (decide_eq_false (by omega)) (by omega))]), hb1⟩)
            · go_wp2_with (go_at_call 50; refine (isLetter_any _ _).mono ?_; rintro e w' ⟨rfl, rfl⟩)
              go_round
              case rel => exact ⟨k + 1, by omega, by go_num, all_more (p := okB) s k hlt ha.out (okB_let hb)⟩
              case measure => simp [intOf]; omega
          · go_wp2_with fail
            go_ret
            exact ⟨ret_bool (by rw [nameB_rest h0 h12 h1, all_done (p := okB) s k (by omega) ha.out]), hb1⟩
    · go_enter Try.func25, Try.ntmps25
      go_wp2_with fail
      go_ret
      exact ⟨ret_bool (nameB_long (by omega)).symm, Below.refl _ _⟩
  · go_enter Try.func25, Try.ntmps25
    go_wp2_with fail
    go_ret
    exact ⟨ret_bool (nameB_none (by omega)).symm, Below.refl _ _⟩

set_option maxHeartbeats 800000 in
theorem sIsName (s : ByteArray) (w : World) (hs : s.size ≤ 1048576) :
    Calls Try.prog 18 #[.string s] w fun e w' => e = .returned (.bool (nameB s.data.toList)) ∧ w = w' := by
  by_cases h0 : 0 < s.size
  · have hemp : s.toList.isEmpty = false := by
      rw [List.isEmpty_eq_false_iff]
      intro h
      have : s.toList.length = s.size := by simp [ByteArray.toList_eq]
      rw [h] at this
      simp at this
      omega
    by_cases h12 : s.size ≤ 12
    · cases h1 : letB (s[0].toNat : Int)
      · go_enter Try.func18, Try.ntmps18
        go_wp2_with (go_at_call 42; refine (l01Small_any _ _).mono ?_; rintro e w' ⟨rfl, rfl⟩)
        go_ret
        exact ⟨ret_bool (nameB_first h0 h1).symm, rfl⟩
      · go_enter Try.func18, Try.ntmps18
        go_wp2_with (go_at_call 42; refine (l01Small_any _ _).mono ?_; rintro e w' ⟨rfl, rfl⟩)
        go_loop [3] (fun i => ∃ k : Nat, k ≤ s.size ∧ i = .int .i64 k ∧ Hid ((s.data.toList.take k).all okB = true)) (fun i => s.size - (intOf i).toNat)
        case atStart => exact ⟨0, Nat.zero_le _, rfl, by simp [Hid]⟩
        case round =>
          obtain ⟨k, hk, rfl, ha⟩ := hrel
          by_cases hlt : k < s.size
          · cases hb : letB s[k].toNat
            · cases hd : digB s[k].toNat <;> cases hd3 : ((s[k].toNat : Int) != 45)
              all_goals go_wp2_with (first | (go_at_call 42; refine (l01Small_any _ _).mono ?_; rintro e w' ⟨rfl, rfl⟩) | (go_at_call 43; refine (l01Digit_any _ _).mono ?_; rintro e w' ⟨rfl, rfl⟩))
              all_goals simp at hd3
              all_goals
                first
                  | (go_round
                     case rel => exact ⟨k + 1, by omega, by go_num, all_more (p := okB) s k hlt ha.out (by first | exact okB_dash (by omega) | exact okB_dig hd)⟩
                     case measure => simp [intOf]; omega)
                  | (go_ret
                     exact ⟨ret_bool (by rw [nameB_rest h0 h12 h1, all_stop (p := okB) s k hlt (okB_not hb hd (by omega))]), rfl⟩)
            · go_wp2_with (first | (go_at_call 42; refine (l01Small_any _ _).mono ?_; rintro e w' ⟨rfl, rfl⟩) | (go_at_call 43; refine (l01Digit_any _ _).mono ?_; rintro e w' ⟨rfl, rfl⟩))
              go_round
              case rel => exact ⟨k + 1, by omega, by go_num, all_more (p := okB) s k hlt ha.out (okB_let hb)⟩
              case measure => simp [intOf]; omega
          · go_wp2_with fail
            go_ret
            exact ⟨ret_bool (by rw [nameB_rest h0 h12 h1, all_done (p := okB) s k (by omega) ha.out]), rfl⟩
    · go_enter Try.func18, Try.ntmps18
      go_wp2_with fail
      go_ret
      exact ⟨ret_bool (nameB_long (by omega)).symm, rfl⟩
  · have hemp : s.toList.isEmpty = true := by
      have : s.toList.length = s.size := by simp [ByteArray.toList_eq]
      rw [List.isEmpty_iff]
      exact List.eq_nil_of_length_eq_zero (by omega)
    go_enter Try.func18, Try.ntmps18
    go_wp2_with fail
    go_ret
    exact ⟨ret_bool (nameB_none (by omega)).symm, rfl⟩
end Go.Proofs.Ytmdmjnhebbhjbaa
