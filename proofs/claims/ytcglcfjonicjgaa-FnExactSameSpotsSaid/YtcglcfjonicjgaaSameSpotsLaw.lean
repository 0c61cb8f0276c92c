/-
  The law of SameSpots.
-/
import Derived.Test.YtcglcfjonicjgaaSameSpots
namespace Go.Proofs.Ytcglcfjonicjgaa
set_option linter.unusedSimpArgs false
set_option linter.unusedVariables false
open Go.RowKit

theorem sSameSpots_any (A B : Option Addr) (n m c d : Nat) (xs ys : List Sp) (w : World) (ha : Rd w A n 2 (rowOf spC xs)) (hb : Rd w B m 2 (rowOf spC ys)) (la : xs.length = n) (lb : ys.length = m) (hn : n ≤ 1048576) (hm : m ≤ 1048576) :
    Calls Try.prog 16 #[.slice A n c, .slice B m d] w fun e w' => e = .returned (.bool (decide (xs = ys))) ∧ Below w.heap.size w w' := by
  go_enter Try.func16, Try.ntmps16
  go_wp2_with fail
  refine (l06Same_any A B n m c d xs ys _ ha hb la lb hn hm).mono ?_
  rintro e w2 ⟨rfl, hb2⟩
  go_wp2_with fail
  go_ret
  exact ⟨rfl, hb2⟩
theorem iSameSpots_any (A B : Option Addr) (n m c d : Nat) (xs ys : List Sp) (w : World) (ha : Rd w A n 2 (rowOf spC xs)) (hb : Rd w B m 2 (rowOf spC ys)) (la : xs.length = n) (lb : ys.length = m) (hn : n ≤ 1048576) (hm : m ≤ 1048576) :
    Calls Try.prog 18 #[.slice A n c, .slice B m d] w fun e w' => e = .returned (.bool (decide (xs = ys))) ∧ Below w.heap.size w w' := by
  go_enter Try.func18, Try.ntmps18
  go_wp2_with fail
  refine (equalSpots_any A B n m c d xs ys _ ha hb la lb hn hm).mono ?_
  rintro e w2 ⟨rfl, hb2⟩
  go_wp2_with fail
  go_ret
  exact ⟨rfl, hb2⟩

set_option maxHeartbeats 4000000 in
theorem sameSpots_walk {w : World} (A B : Option Addr) (n m c d : Nat) (xs ys : List Sp) (ha : Rd w A n 2 (rowOf spC xs)) (hb : Rd w B m 2 (rowOf spC ys)) (la : xs.length = n) (lb : ys.length = m) (hn : n ≤ 9223372036854775807) (hm : m ≤ 9223372036854775807) :
    Calls Try.prog 3 #[.slice A n c, .slice B m d] w (Yes w) := by
  have HA := Lib.hid ha
  have HD := Lib.hid hb
  have LA := Lib.hid la
  have LB := Lib.hid lb
  clear ha hb la lb
  cases e1 : decide (n ≤ 1048576)
  · have hbig : ¬ n ≤ 1048576 := of_decide_eq_false e1
    have hif : (if n ≤ 1048576 then ((1048576 - n : Nat) : Int) else -1) = -1 := if_neg hbig
    have hsz := szSpotS_any A n c 1048576 w (by omega) (by omega)
    rw [hif] at hsz
    clear e1
    go_enter Try.func3, Try.ntmps3
    go_wp2_with (go_at_call 15; refine (hsz).mono ?_; rintro e w' ⟨rfl, rfl⟩)
    go_ret
    exact ⟨rfl, Below.refl _ _⟩
  · have hle : n ≤ 1048576 := of_decide_eq_true e1
    have hif : (if n ≤ 1048576 then ((1048576 - n : Nat) : Int) else -1) = ((1048576 - n : Nat) : Int) := if_pos hle
    have hsz := szSpotS_any A n c 1048576 w (by omega) (by omega)
    rw [hif] at hsz
    clear e1
    cases e2 : decide (m ≤ 1048576 - n)
    · have hbig : ¬ m ≤ 1048576 - n := of_decide_eq_false e2
      have hif2 : (if m ≤ 1048576 - n then ((1048576 - n - m : Nat) : Int) else -1) = -1 := if_neg hbig
      have hsz2 := szSpotS_any B m d (1048576 - n) w (by omega) (by omega)
      rw [hif2] at hsz2
      clear e2
      go_enter Try.func3, Try.ntmps3
      go_wp2_with fail
      refine hsz.mono ?_
      rintro e w' ⟨rfl, rfl⟩
      go_wp2_with fail
      refine hsz2.mono ?_
      rintro e w' ⟨rfl, rfl⟩
      go_wp2_with fail
      go_ret
      exact ⟨rfl, Below.refl _ _⟩
    · have hle2 : m ≤ 1048576 - n := of_decide_eq_true e2
      have hif2 : (if m ≤ 1048576 - n then ((1048576 - n - m : Nat) : Int) else -1) = ((1048576 - n - m : Nat) : Int) := if_pos hle2
      have hsz2 := szSpotS_any B m d (1048576 - n) w (by omega) (by omega)
      rw [hif2] at hsz2
      clear e2
      have hm' : m ≤ 1048576 := by omega
      go_enter Try.func3, Try.ntmps3
      go_wp2_with fail
      refine hsz.mono ?_
      rintro e w' ⟨rfl, rfl⟩
      go_wp2_with fail
      refine hsz2.mono ?_
      rintro e w' ⟨rfl, rfl⟩
      go_wp2_with fail
      refine (toSpotS_any A n c xs _ HA.out LA.out hle).mono ?_
      rintro e w1 ⟨g1, rfl, hg1, hk1, hb1⟩
      have r1 := Lib.hid (hk1.rd (n := n) (size := 2) (by rw [rowOf_length spC_len, LA.out]))
      go_wp2_with fail
      refine (toSpotS_any B m d ys _ (HD.out.below hb1) LB.out hm').mono ?_
      rintro e w2 ⟨g2, rfl, hg2, hk2, hb2⟩
      have r2 := Lib.hid (hk2.rd (n := m) (size := 2) (by rw [rowOf_length spC_len, LB.out]))
      have hW2 := Below.next hb1 hb2
      go_wp2_with fail
      refine (sSameSpots_any _ _ n m n m xs ys _ (r1.out.below hb2) r2.out LA.out LB.out hle hm').mono ?_
      rintro e w3 ⟨rfl, hb3⟩
      have hW3 := Below.next hW2 hb3
      go_wp2_with fail
      refine (toSpotS_any A n c xs _ (HA.out.below hW3) LA.out hle).mono ?_
      rintro e w4 ⟨g4, rfl, hg4, hk4, hb4⟩
      have r4 := Lib.hid (hk4.rd (n := n) (size := 2) (by rw [rowOf_length spC_len, LA.out]))
      have hW4 := Below.next hW3 hb4
      go_wp2_with fail
      refine (toSpotS_any B m d ys _ (HD.out.below hW4) LB.out hm').mono ?_
      rintro e w5 ⟨g5, rfl, hg5, hk5, hb5⟩
      have r5 := Lib.hid (hk5.rd (n := m) (size := 2) (by rw [rowOf_length spC_len, LB.out]))
      have hW5 := Below.next hW4 hb5
      go_wp2_with fail
      refine (iSameSpots_any _ _ n m n m xs ys _ (r4.out.below hb5) r5.out LA.out LB.out hle hm').mono ?_
      rintro e w6 ⟨rfl, hb6⟩
      have hW6 := Below.next hW5 hb6
      have r4' := Lib.hid ((r4.out.below hb5).below hb6)
      have r5' := Lib.hid (r5.out.below hb6)
      have hne : (decide (xs = ys) != decide (xs = ys)) = false := by cases decide (xs = ys) <;> rfl
      go_wp2_with fail
      refine (toSpotS_any A n c xs _ (HA.out.below hW6) LA.out hle).mono ?_
      rintro e w7 ⟨g7, rfl, hg7, hk7, hb7⟩
      have r7 := Lib.hid (hk7.rd (n := n) (size := 2) (by rw [rowOf_length spC_len, LA.out]))
      have hW7 := Below.next hW6 hb7
      go_wp2_with fail
      refine (eqSpotS_any _ _ n n n n xs xs _ (r4'.out.below hb7) r7.out LA.out LA.out hle hle).mono ?_
      rintro e w8 ⟨rfl, hb8⟩
      rw [decide_eq_true (rfl : xs = xs)]
      have hW8 := Below.next hW7 hb8
      go_wp2_with fail
      refine (toSpotS_any B m d ys _ (HD.out.below hW8) LB.out hm').mono ?_
      rintro e w9 ⟨g9, rfl, hg9, hk9, hb9⟩
      have r9 := Lib.hid (hk9.rd (n := m) (size := 2) (by rw [rowOf_length spC_len, LB.out]))
      have hW9 := Below.next hW8 hb9
      go_wp2_with fail
      refine (eqSpotS_any _ _ m m m m ys ys _ (((r5'.out.below hb7).below hb8).below hb9) r9.out LB.out LB.out hm' hm').mono ?_
      rintro e w10 ⟨rfl, hb10⟩
      rw [decide_eq_true (rfl : ys = ys)]
      go_wp2_with fail
      go_ret
      exact ⟨rfl, Below.next hW9 hb10⟩

theorem law_SameSpots {w : World} (a : Option Addr × Nat × List Sp) (ha : a.2.2.length ≤ a.2.1 ∧ a.2.1 ≤ 9223372036854775807 ∧ Rd w a.1 a.2.2.length 2 (rowOf spC a.2.2)) (b : Option Addr × Nat × List Sp) (hb : b.2.2.length ≤ b.2.1 ∧ b.2.1 ≤ 9223372036854775807 ∧ Rd w b.1 b.2.2.length 2 (rowOf spC b.2.2)) (_ : World) :
    Calls Try.prog 3 #[.slice a.1 a.2.2.length a.2.1, .slice b.1 b.2.2.length b.2.1] w (Yes w) :=
  sameSpots_walk a.1 b.1 _ _ _ _ _ _ ha.2.2 hb.2.2 rfl rfl (Nat.le_trans ha.1 ha.2.1) (Nat.le_trans hb.1 hb.2.1)
end Go.Proofs.Ytcglcfjonicjgaa
