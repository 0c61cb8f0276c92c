/-
  ReadRice: program and reference read the same number, or refuse alike.
-/
import Derived.Test.YtgpmlpneffbbbaaDoorReadS
import Derived.Test.YtgpmlpneffbbbaaDoorAreBits
namespace Go.Proofs.YtgpmlpneffbbbaaDoor
set_option linter.unusedSimpArgs false
set_option linter.unusedVariables false
set_option maxRecDepth 20000
open Go.RowKit
open Go.ChangeShapes Go.WideShapes Go.Deep Go.Joins

theorem areBits_is {s : ByteArray} {b : Bool} (h : Hid (bitsOk s = b)) (hs : s.size ≤ 1048576) (w : World) :
    Calls Tryd.prog 28 #[.string s] w fun e w' => e = .returned (.bool b) ∧ Below w.heap.size w w' := by
  rw [← h.out]; exact areBits_any s hs w
theorem l04Ok_is {s : ByteArray} {b : Bool} (h : Hid (bitsOk s = b)) (hs : s.size ≤ 1048576) (w : World) :
    Calls Tryd.prog 26 #[.string s] w fun e w' => e = .returned (.bool b) ∧ w = w' := by
  rw [← h.out]; exact l04Ok_any s hs w
theorem inB_is {n low high : Int} {b : Bool} (h : Hid (inB n low high = b)) (w : World) :
    Calls Tryd.prog 31 #[.int .i64 n, .int .i64 low, .int .i64 high] w fun e w' => e = .returned (.bool b) ∧ w = w' := by
  rw [← h.out]; exact within_any n low high w
theorem inB_isS {n low high : Int} {b : Bool} (h : Hid (inB n low high = b)) (w : World) :
    Calls Tryd.prog 29 #[.int .i64 n, .int .i64 low, .int .i64 high] w fun e w' => e = .returned (.bool b) ∧ w = w' := by
  rw [← h.out]; exact l00In_any n low high w
theorem bitsOk_all {s : ByteArray} (h : bitsOk s = true) : s.data.toList.all isBit = true := by
  rw [bitsOk, Bool.and_eq_true] at h; exact h.2
/-- what ReadRice answers -/
inductive RiceR (s : ByteArray) (at' k : Int) : Int × Int × Int → Prop
  | bad : bitsOk s = false → RiceR s at' k (0, 0, 7)
  | out : bitsOk s = true → (inB k 0 12 = false ∨ inB k 0 12 = true ∧ inB at' 0 (s.size : Int) = false) → RiceR s at' k (0, 0, 2)
  | ok (a kk q : Nat) : bitsOk s = true → at' = (a : Int) → k = (kk : Int) → a ≤ s.size → kk ≤ 12 → OnesAt s a q → RiceR s at' k (riceRd s a kk q)
theorem riceR_exists (s : ByteArray) (at' k : Int) : ∃ R, RiceR s at' k R := by
  cases h : bitsOk s
  · exact ⟨_, .bad h⟩
  · cases hk : inB k 0 12
    · exact ⟨_, .out h (.inl hk)⟩
    · cases ha : inB at' 0 (s.size : Int)
      · exact ⟨_, .out h (.inr ⟨hk, ha⟩)⟩
      · have h1 := inB_true hk
        have h2 := inB_true ha
        obtain ⟨a, e⟩ : ∃ a : Nat, at' = (a : Int) := ⟨at'.toNat, by omega⟩
        obtain ⟨kk, e2⟩ : ∃ kk : Nat, k = (kk : Int) := ⟨k.toNat, by omega⟩
        obtain ⟨q, hq⟩ := ones_exist s a 20 0 (by omega) (by omega) (by omega) (by omega)
        exact ⟨_, .ok a kk q h e e2 (by omega) (by omega) hq⟩
set_option maxHeartbeats 1500000 in
theorem iReadRice_any (s : ByteArray) (hs : s.size ≤ 1048576) (at' k : Int) (R : Int × Int × Int) (h : RiceR s at' k R) (w : World) :
    Calls Tryd.prog 18 #[.string s, .int .i64 at', .int .i64 k] w fun e w' => e = ret3 R ∧ Below w.heap.size w w' := by
  cases h with
  | bad h1 =>
    have H1 := Lib.hid h1
    clear h1
    go_enter Tryd.func18, Tryd.ntmps18
    go_wp2_with fail
    refine (areBits_is H1 hs _).mono ?_
    rintro e w1 ⟨rfl, hb1⟩
    go_wp2_with fail
    refine bodyPost_ret (by simp [results, Tryd.results18, go_sem, *]; try rfl) rfl ?_
    exact ⟨rfl, hb1⟩
  | out h1 h2 =>
    have H1 := Lib.hid h1
    clear h1
    rcases h2 with h2 | ⟨h2, h3⟩
    · have H2 := Lib.hid h2
      clear h2
      go_enter Tryd.func18, Tryd.ntmps18
      go_wp2_with fail
      refine (areBits_is H1 hs _).mono ?_
      rintro e w1 ⟨rfl, hb1⟩
      go_wp2_with (go_at_call 31; refine (inB_is H2 _).mono ?_; rintro e w' ⟨rfl, rfl⟩)
      refine bodyPost_ret (by simp [results, Tryd.results18, go_sem, *]; try rfl) rfl ?_
      exact ⟨rfl, hb1⟩
    · have H2 := Lib.hid h2
      have H3 := Lib.hid h3
      clear h2 h3
      go_enter Tryd.func18, Tryd.ntmps18
      go_wp2_with fail
      refine (areBits_is H1 hs _).mono ?_
      rintro e w1 ⟨rfl, hb1⟩
      go_wp2_with (first | (go_at_call 31; (with_reducible refine (inB_is H2 _).mono ?_); rintro e w' ⟨rfl, rfl⟩) | (go_at_call 31; (with_reducible refine (inB_is H3 _).mono ?_); rintro e w' ⟨rfl, rfl⟩))
      refine bodyPost_ret (by simp [results, Tryd.results18, go_sem, *]; try rfl) rfl ?_
      exact ⟨rfl, hb1⟩
  | ok a kk q h1 e1 e2 ha hk ho =>
    subst e1 e2
    have H1 := Lib.hid h1
    have H2 := Lib.hid (inB_mk (n := (kk : Int)) (low := 0) (high := 12) (by omega))
    have H3 := Lib.hid (inB_mk (n := (a : Int)) (low := 0) (high := (s.size : Int)) (by omega))
    have HC := Lib.hid (readRice_any s hs (bitsOk_all h1) a kk q ha hk ho)
    obtain ⟨R, hR⟩ : ∃ R, riceRd s a kk q = R := ⟨_, rfl⟩
    rw [hR] at HC ⊢
    obtain ⟨x, y, z⟩ := R
    clear h1 ho hR
    go_enter Tryd.func18, Tryd.ntmps18
    go_wp2_with fail
    refine (areBits_is H1 hs _).mono ?_
    rintro e w1 ⟨rfl, hb1⟩
    go_wp2_with (first | (go_at_call 31; (with_reducible refine (inB_is H2 _).mono ?_); rintro e w' ⟨rfl, rfl⟩) | (go_at_call 31; (with_reducible refine (inB_is H3 _).mono ?_); rintro e w' ⟨rfl, rfl⟩))
    refine (HC.out _).mono ?_
    rintro e w2 ⟨rfl, hb2⟩
    unfold ret3
    go_wp2_with fail
    refine bodyPost_ret (by simp [results, Tryd.results18, go_sem, *]; try rfl) rfl ?_
    exact ⟨rfl, Below.next hb1 hb2⟩
set_option maxHeartbeats 1500000 in
theorem sReadRice_any (s : ByteArray) (hs : s.size ≤ 1048576) (at' k : Int) (R : Int × Int × Int) (h : RiceR s at' k R) (w : World) :
    Calls Tryd.prog 17 #[.string s, .int .i64 at', .int .i64 k] w fun e w' => e = ret3 R ∧ Below w.heap.size w w' := by
  cases h with
  | bad h1 =>
    have H1 := Lib.hid h1
    clear h1
    go_enter Tryd.func17, Tryd.ntmps17
    go_wp2_with (go_at_call 26; refine (l04Ok_is H1 hs _).mono ?_; rintro e w' ⟨rfl, rfl⟩)
    refine bodyPost_ret (by simp [results, Tryd.results17, go_sem, *]; try rfl) rfl ?_
    exact ⟨rfl, Below.refl _ _⟩
  | out h1 h2 =>
    have H1 := Lib.hid h1
    clear h1
    rcases h2 with h2 | ⟨h2, h3⟩
    · have H2 := Lib.hid h2
      clear h2
      go_enter Tryd.func17, Tryd.ntmps17
      go_wp2_with (first | (go_at_call 26; refine (l04Ok_is H1 hs _).mono ?_; rintro e w' ⟨rfl, rfl⟩) | (go_at_call 29; refine (inB_isS H2 _).mono ?_; rintro e w' ⟨rfl, rfl⟩))
      refine bodyPost_ret (by simp [results, Tryd.results17, go_sem, *]; try rfl) rfl ?_
      exact ⟨rfl, Below.refl _ _⟩
    · have H2 := Lib.hid h2
      have H3 := Lib.hid h3
      clear h2 h3
      go_enter Tryd.func17, Tryd.ntmps17
      go_wp2_with (first | (go_at_call 26; refine (l04Ok_is H1 hs _).mono ?_; rintro e w' ⟨rfl, rfl⟩) | (go_at_call 29; (with_reducible refine (inB_isS H2 _).mono ?_); rintro e w' ⟨rfl, rfl⟩) | (go_at_call 29; (with_reducible refine (inB_isS H3 _).mono ?_); rintro e w' ⟨rfl, rfl⟩))
      refine bodyPost_ret (by simp [results, Tryd.results17, go_sem, *]; try rfl) rfl ?_
      exact ⟨rfl, Below.refl _ _⟩
  | ok a kk q h1 e1 e2 ha hk ho =>
    subst e1 e2
    have H1 := Lib.hid h1
    have H2 := Lib.hid (inB_mk (n := (kk : Int)) (low := 0) (high := 12) (by omega))
    have H3 := Lib.hid (inB_mk (n := (a : Int)) (low := 0) (high := (s.size : Int)) (by omega))
    have HC := Lib.hid (l04Read_any s hs (bitsOk_all h1) a kk q ha hk ho)
    obtain ⟨R, hR⟩ : ∃ R, riceRd s a kk q = R := ⟨_, rfl⟩
    rw [hR] at HC ⊢
    obtain ⟨x, y, z⟩ := R
    clear h1 ho hR
    go_enter Tryd.func17, Tryd.ntmps17
    go_wp2_with (first | (go_at_call 26; refine (l04Ok_is H1 hs _).mono ?_; rintro e w' ⟨rfl, rfl⟩) | (go_at_call 29; (with_reducible refine (inB_isS H2 _).mono ?_); rintro e w' ⟨rfl, rfl⟩) | (go_at_call 29; (with_reducible refine (inB_isS H3 _).mono ?_); rintro e w' ⟨rfl, rfl⟩))
    refine (HC.out _).mono ?_
    rintro e w2 ⟨rfl, hb2⟩
    unfold ret3
    go_wp2_with fail
    refine bodyPost_ret (by simp [results, Tryd.results17, go_sem, *]; try rfl) rfl ?_
    exact ⟨rfl, hb2⟩
end Go.Proofs.YtgpmlpneffbbbaaDoor
