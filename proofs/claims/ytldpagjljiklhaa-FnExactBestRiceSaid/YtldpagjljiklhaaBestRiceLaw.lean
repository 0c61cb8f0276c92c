/-
  The law of BestRice returns true: program and reference find the same parameter, or refuse alike.
-/
import Derived.Test.YtldpagjljiklhaaBestRice
namespace Go.Proofs.Ytldpagjljiklhaa
set_option linter.unusedSimpArgs false
set_option linter.unusedVariables false
open Go.RowKit
open Go.ChangeShapes Go.WideShapes Go.Deep Go.Joins

set_option maxHeartbeats 8000000 in
theorem BestRice_walk {w : World} (A0 : Option Addr) (n0 c0 : Nat) (xs0 : List Int) (ha0 : Rd w A0 n0 1 (rowOf iC xs0)) (la0 : xs0.length = n0) (hn0 : n0 ≤ 9223372036854775807) :
    Calls Try.prog 5 #[.slice A0 n0 c0] w (Yes w) := by
  have HA0_0 := Lib.hid ha0
  have LA0 := Lib.hid la0
  clear ha0 la0
  by_cases hle0 : n0 ≤ 1048576
  rotate_left
  · go_enter Try.func5, Try.ntmps5
    go_wp2_with fail
    go_ret
    exact ⟨rfl, Below.refl _ _⟩
  · obtain ⟨⟨r1, r2, r3⟩, hr⟩ : ∃ r, bestR xs0 = r := ⟨_, rfl⟩
    have HR := Lib.hid hr
    clear hr
    go_enter Try.func5, Try.ntmps5
    go_wp2_with fail
    refine (toInt64S_any A0 n0 c0 xs0 _ (by first | exact HA0_0.out | exact HA0_0.out.alloc _ | exact (HA0_0.out.alloc _).alloc _ | exact ((HA0_0.out.alloc _).alloc _).alloc _ | exact HA0_0.out.drew | exact (HA0_0.out.drew).alloc _) LA0.out hle0).mono ?_
    rintro e w1 ⟨g1, rfl, hg1, hk1, hb1⟩
    have hB1 : Below w.heap.size w w1 := Below.next (by go_grown) hb1
    have hT1 : Below w.heap.size w w1 := hB1
    have hz1 := hb1.size
    (try simp only [World.size_alloc, World.size_drew] at hz1)
    have HA0_1 := Lib.hid (HA0_0.out.below hT1)
    have RS_1 := Lib.hid (hk1.rd (n := n0) (size := 1) (by rw [rowOf_length iC_len, LA0.out]))
    go_wp2_with fail
    refine (sBestRice _ n0 n0 xs0 _ (by first | exact RS_1.out | exact RS_1.out.alloc _ | exact (RS_1.out.alloc _).alloc _ | exact ((RS_1.out.alloc _).alloc _).alloc _ | exact RS_1.out.drew | exact (RS_1.out.drew).alloc _) LA0.out hle0).mono ?_
    rintro e w2 ⟨rfl, hb2⟩
    have hB2 : Below w1.heap.size w1 w2 := Below.next (by go_grown) hb2
    have hT2 : Below w.heap.size w w2 := Below.next hT1 hB2
    have hz2 := hb2.size
    (try simp only [World.size_alloc, World.size_drew] at hz2)
    have RS_2 := Lib.hid (RS_1.out.below hB2)
    clear RS_1
    have HA0_2 := Lib.hid (HA0_0.out.below hT2)
    clear HA0_1
    rw [HR.out]
    go_wp2_with fail
    refine (toInt64S_any A0 n0 c0 xs0 _ (by first | exact HA0_2.out | exact HA0_2.out.alloc _ | exact (HA0_2.out.alloc _).alloc _ | exact ((HA0_2.out.alloc _).alloc _).alloc _ | exact HA0_2.out.drew | exact (HA0_2.out.drew).alloc _) LA0.out hle0).mono ?_
    rintro e w3 ⟨g3, rfl, hg3, hk3, hb3⟩
    have hB3 : Below w2.heap.size w2 w3 := Below.next (by go_grown) hb3
    have hT3 : Below w.heap.size w w3 := Below.next hT2 hB3
    have hz3 := hb3.size
    (try simp only [World.size_alloc, World.size_drew] at hz3)
    have HA0_3 := Lib.hid (HA0_0.out.below hT3)
    clear HA0_2
    have RX_3 := Lib.hid (hk3.rd (n := n0) (size := 1) (by rw [rowOf_length iC_len, LA0.out]))
    go_wp2_with fail
    refine (iBestRice _ n0 n0 xs0 _ (by first | exact RX_3.out | exact RX_3.out.alloc _ | exact (RX_3.out.alloc _).alloc _ | exact ((RX_3.out.alloc _).alloc _).alloc _ | exact RX_3.out.drew | exact (RX_3.out.drew).alloc _) LA0.out hle0).mono ?_
    rintro e w' ⟨rfl, rfl⟩
    rw [HR.out]
    go_wp2_with fail
    refine (toInt64S_any A0 n0 c0 xs0 _ (by first | exact HA0_3.out | exact HA0_3.out.alloc _ | exact (HA0_3.out.alloc _).alloc _ | exact ((HA0_3.out.alloc _).alloc _).alloc _ | exact HA0_3.out.drew | exact (HA0_3.out.drew).alloc _) LA0.out hle0).mono ?_
    rintro e w4 ⟨g4, rfl, hg4, hk4, hb4⟩
    have hB4 : Below w3.heap.size w3 w4 := Below.next (by go_grown) hb4
    have hT4 : Below w.heap.size w w4 := Below.next hT3 hB4
    have hz4 := hb4.size
    (try simp only [World.size_alloc, World.size_drew] at hz4)
    have RX_4 := Lib.hid (RX_3.out.below hB4)
    clear RX_3
    have HA0_4 := Lib.hid (HA0_0.out.below hT4)
    clear HA0_3
    have RE_4 := Lib.hid (hk4.rd (n := n0) (size := 1) (by rw [rowOf_length iC_len, LA0.out]))
    go_wp2_with fail
    refine (eqInt64S_same _ _ n0 n0 n0 xs0 _ (by first | exact RX_4.out | exact RX_4.out.alloc _ | exact (RX_4.out.alloc _).alloc _ | exact ((RX_4.out.alloc _).alloc _).alloc _ | exact RX_4.out.drew | exact (RX_4.out.drew).alloc _) (by first | exact RE_4.out | exact RE_4.out.alloc _ | exact (RE_4.out.alloc _).alloc _ | exact ((RE_4.out.alloc _).alloc _).alloc _ | exact RE_4.out.drew | exact (RE_4.out.drew).alloc _) LA0.out hle0).mono ?_
    rintro e w5 ⟨rfl, hb5⟩
    have hB5 : Below w4.heap.size w4 w5 := Below.next (by go_grown) hb5
    have hT5 : Below w.heap.size w w5 := Below.next hT4 hB5
    have hz5 := hb5.size
    (try simp only [World.size_alloc, World.size_drew] at hz5)
    have RX_5 := Lib.hid (RX_4.out.below hB5)
    have RE_5 := Lib.hid (RE_4.out.below hB5)
    clear RX_4 RE_4
    have HA0_5 := Lib.hid (HA0_0.out.below hT5)
    clear HA0_4
    go_wp2_with fail
    go_ret
    exact ⟨rfl, by go_grown⟩

theorem law_BestRice {w : World} (s0 : Li) (hs0 : s0.good w) (_ : World) :
    Calls Try.prog 5 #[.slice s0.A s0.l.length s0.c] w (Yes w) :=
  BestRice_walk s0.A _ _ _ hs0.2.2 rfl (Nat.le_trans hs0.1 hs0.2.1)
end Go.Proofs.Ytldpagjljiklhaa
