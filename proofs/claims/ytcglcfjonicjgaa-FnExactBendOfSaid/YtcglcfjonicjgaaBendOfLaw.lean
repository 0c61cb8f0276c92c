/-
  The law of BendOf returns true: program and reference compute the same sum, or refuse alike.
-/
import Derived.Test.YtcglcfjonicjgaaBend
import Derived.Test.YtcglcfjonicjgaaPtsEq
namespace Go.Proofs.Ytcglcfjonicjgaa
set_option linter.unusedSimpArgs false
set_option linter.unusedVariables false
open Go.RowKit

set_option maxHeartbeats 8000000 in
theorem BendOf_walk {w : World} (A0 : Option Addr) (n0 c0 : Nat) (xs0 : List Pt) (ha0 : Rd w A0 n0 3 (rowOf ptC xs0)) (la0 : xs0.length = n0) (hn0 : n0 ≤ 9223372036854775807) :
    Calls Try.prog 13 #[.agg #[.slice A0 n0 c0]] w (Yes w) := by
  have HA0_0 := Lib.hid ha0
  have LA0 := Lib.hid la0
  clear ha0 la0
  by_cases hle0 : n0 ≤ 1048576
  rotate_left
  · go_enter Try.func13, Try.ntmps13
    go_wp2_with fail
    refine (szStroke_no A0 n0 c0 (1048576) _ hn0 (by omega) hle0).mono ?_
    rintro e w1 ⟨rfl, hb1⟩
    have hB1 : Below w.heap.size w w1 := Below.next (by go_grown) hb1
    have hT1 : Below w.heap.size w w1 := hB1
    have hz1 := hb1.size
    (try simp only [World.size_alloc, World.size_drew] at hz1)
    have bx0_l1 : w.heap.size < w1.heap.size := by omega
    have bx0_0_1 : w1.cell? ⟨w.heap.size, 0, none⟩ = some (.slice A0 n0 c0) := (hb1.cell (p := ⟨w.heap.size, 0, none⟩) (by (try simp only [World.size_alloc, World.size_drew]); omega)).trans (by go_simp)
    have HA0_1 := Lib.hid (HA0_0.out.below hB1)
    go_wp2_with fail
    go_ret
    exact ⟨rfl, by go_grown⟩
  · skip
    go_enter Try.func13, Try.ntmps13
    go_wp2_with fail
    refine (szStroke_ok A0 n0 c0 (1048576) _ hn0 (by omega) hle0).mono ?_
    rintro e w1 ⟨rfl, hb1⟩
    have hB1 : Below w.heap.size w w1 := Below.next (by go_grown) hb1
    have hT1 : Below w.heap.size w w1 := hB1
    have hz1 := hb1.size
    (try simp only [World.size_alloc, World.size_drew] at hz1)
    have bx0_l1 : w.heap.size < w1.heap.size := by omega
    have bx0_0_1 : w1.cell? ⟨w.heap.size, 0, none⟩ = some (.slice A0 n0 c0) := (hb1.cell (p := ⟨w.heap.size, 0, none⟩) (by (try simp only [World.size_alloc, World.size_drew]); omega)).trans (by go_simp)
    have HA0_1 := Lib.hid (HA0_0.out.below hB1)
    go_wp2_with fail
    refine (toStroke_any A0 n0 c0 xs0 _ (by first | exact HA0_1.out | exact HA0_1.out.alloc _ | exact (HA0_1.out.alloc _).alloc _ | exact ((HA0_1.out.alloc _).alloc _).alloc _ | exact HA0_1.out.drew | exact (HA0_1.out.drew).alloc _) LA0.out hle0).mono ?_
    rintro e w2 ⟨g2, rfl, hg2, hk2, hb2⟩
    have hB2 : Below w1.heap.size w1 w2 := Below.next (by go_grown) hb2
    have hT2 : Below w.heap.size w w2 := Below.next hT1 hB2
    have hz2 := hb2.size
    (try simp only [World.size_alloc, World.size_drew] at hz2)
    have bx0_l2 : w.heap.size < w2.heap.size := Nat.lt_of_lt_of_le bx0_l1 hB2.size
    have bx0_0_2 : w2.cell? ⟨w.heap.size, 0, none⟩ = some (.slice A0 n0 c0) := (hB2.cell (p := ⟨w.heap.size, 0, none⟩) bx0_l1).trans bx0_0_1
    have HA0_2 := Lib.hid (HA0_1.out.below hB2)
    clear bx0_l1 bx0_0_1 HA0_1
    have RS0_2 := Lib.hid (hk2.rd (n := n0) (size := 3) (by rw [rowOf_length ptC_len, LA0.out]))
    go_wp2_with fail
    refine (sBendOf _ n0 n0 xs0 _ (by first | exact RS0_2.out | exact RS0_2.out.alloc _ | exact (RS0_2.out.alloc _).alloc _ | exact ((RS0_2.out.alloc _).alloc _).alloc _ | exact RS0_2.out.drew | exact (RS0_2.out.drew).alloc _) LA0.out hle0).mono ?_
    rintro e w3 ⟨rfl, hb3⟩
    have hB3 : Below w2.heap.size w2 w3 := Below.next (by go_grown) hb3
    have hT3 : Below w.heap.size w w3 := Below.next hT2 hB3
    have hz3 := hb3.size
    (try simp only [World.size_alloc, World.size_drew] at hz3)
    have bx0_l3 : w.heap.size < w3.heap.size := Nat.lt_of_lt_of_le bx0_l2 hB3.size
    have bx0_0_3 : w3.cell? ⟨w.heap.size, 0, none⟩ = some (.slice A0 n0 c0) := (hB3.cell (p := ⟨w.heap.size, 0, none⟩) bx0_l2).trans bx0_0_2
    have HA0_3 := Lib.hid (HA0_2.out.below hB3)
    have RS0_3 := Lib.hid (RS0_2.out.below hB3)
    clear bx0_l2 bx0_0_2 HA0_2 RS0_2
    go_wp2_with fail
    refine (toStroke_any A0 n0 c0 xs0 _ (by first | exact HA0_3.out | exact HA0_3.out.alloc _ | exact (HA0_3.out.alloc _).alloc _ | exact ((HA0_3.out.alloc _).alloc _).alloc _ | exact HA0_3.out.drew | exact (HA0_3.out.drew).alloc _) LA0.out hle0).mono ?_
    rintro e w4 ⟨g4, rfl, hg4, hk4, hb4⟩
    have hB4 : Below w3.heap.size w3 w4 := Below.next (by go_grown) hb4
    have hT4 : Below w.heap.size w w4 := Below.next hT3 hB4
    have hz4 := hb4.size
    (try simp only [World.size_alloc, World.size_drew] at hz4)
    have bx0_l4 : w.heap.size < w4.heap.size := Nat.lt_of_lt_of_le bx0_l3 hB4.size
    have bx0_0_4 : w4.cell? ⟨w.heap.size, 0, none⟩ = some (.slice A0 n0 c0) := (hB4.cell (p := ⟨w.heap.size, 0, none⟩) bx0_l3).trans bx0_0_3
    have HA0_4 := Lib.hid (HA0_3.out.below hB4)
    clear bx0_l3 bx0_0_3 HA0_3
    have RX0_4 := Lib.hid (hk4.rd (n := n0) (size := 3) (by rw [rowOf_length ptC_len, LA0.out]))
    go_wp2_with fail
    refine (iBendOf _ n0 n0 xs0 _ (by first | exact RX0_4.out | exact RX0_4.out.alloc _ | exact (RX0_4.out.alloc _).alloc _ | exact ((RX0_4.out.alloc _).alloc _).alloc _ | exact RX0_4.out.drew | exact (RX0_4.out.drew).alloc _) LA0.out hle0).mono ?_
    rintro e w5 ⟨rfl, hb5⟩
    have hB5 : Below w4.heap.size w4 w5 := Below.next (by go_grown) hb5
    have hT5 : Below w.heap.size w w5 := Below.next hT4 hB5
    have hz5 := hb5.size
    (try simp only [World.size_alloc, World.size_drew] at hz5)
    have bx0_l5 : w.heap.size < w5.heap.size := Nat.lt_of_lt_of_le bx0_l4 hB5.size
    have bx0_0_5 : w5.cell? ⟨w.heap.size, 0, none⟩ = some (.slice A0 n0 c0) := (hB5.cell (p := ⟨w.heap.size, 0, none⟩) bx0_l4).trans bx0_0_4
    have bxx0_l5 : w4.heap.size < w5.heap.size := by omega
    have bxx0_0_5 : w5.cell? ⟨w4.heap.size, 0, none⟩ = some (.slice (some ⟨g4, 0, none⟩) n0 n0) := (hb5.cell (p := ⟨w4.heap.size, 0, none⟩) (by (try simp only [World.size_alloc, World.size_drew]); omega)).trans (by go_simp)
    have HA0_5 := Lib.hid (HA0_4.out.below hB5)
    have RX0_5 := Lib.hid (RX0_4.out.below hB5)
    clear bx0_l4 bx0_0_4 HA0_4 RX0_4
    go_wp2_with fail
    refine wp_region_held_drew (S := (fun w' => (∀ kb ko, kb < w5.heap.size → w'.cell? ⟨kb, ko, none⟩ = w5.cell? ⟨kb, ko, none⟩) ∧ w5.heap.size ≤ w'.heap.size ∧ Below w5.heap.size w5 w')) (by kernel_rfl) ?_ (fun hHeld => ?_)
    · (try dsimp only); (first | exact SB.mk hkB | exact SB.mk ((Below.refl _ _).drew) | (refine SB.mk ?_; go_grown; done) | (go_split_ands; refine SB.mk (Below.drew ?_); assumption) | (go_split_ands; refine SB.mk ?_; go_grown; done))
    first | (refine take_on (i := 0) (v := ?_) rfl (by kernel_rfl) (by kernel_rfl) (by kernel_rfl) (fun _ _ _ h => h) rfl ?_ (by assumption) ?_; rotate_left; · (intro w' hSw; (try dsimp only at hSw); go_simp; (try with_reducible rfl))) | (refine take_off (i := 0) rfl (by kernel_rfl) (by kernel_rfl) (by kernel_rfl) (fun _ _ _ h => h) rfl (by assumption) ?_)
    (try simp only [Act.put, List.setIfInBounds_toArray, List.set_cons_zero, List.set_cons_succ])
    first | (refine take_on (i := 1) (v := ?_) rfl (by kernel_rfl) (by kernel_rfl) (by kernel_rfl) (fun _ _ _ h => h) rfl ?_ (by assumption) ?_; rotate_left; · (intro w' hSw; (try dsimp only at hSw); go_simp; (try with_reducible rfl))) | (refine take_off (i := 1) rfl (by kernel_rfl) (by kernel_rfl) (by kernel_rfl) (fun _ _ _ h => h) rfl (by assumption) ?_)
    (try simp only [Act.put, List.setIfInBounds_toArray, List.set_cons_zero, List.set_cons_succ])
    refine wpAnyH_ready (rs := [2]) (by kernel_rfl) (by simp) ?_
    refine AllReadyH.cons rfl (fun K hK => ?_) AllReadyH.nil
    rw [if_pos (by rfl)]
    go_simp
    go_at_call 22
    refine (toStroke_any A0 n0 c0 xs0 _ (by first | exact HA0_5.out | exact HA0_5.out.alloc _ | exact (HA0_5.out.alloc _).alloc _ | exact ((HA0_5.out.alloc _).alloc _).alloc _ | exact HA0_5.out.drew | exact (HA0_5.out.drew).alloc _) LA0.out hle0).mono ?_
    rintro e w6 ⟨g6, rfl, hg6, hk6, hb6⟩
    have hB6 : Below w5.heap.size w5 w6 := Below.next (by go_grown) hb6
    have hT6 : Below w.heap.size w w6 := Below.next hT5 hB6
    have hz6 := hb6.size
    (try simp only [World.size_alloc, World.size_drew] at hz6)
    have bx0_l6 : w.heap.size < w6.heap.size := Nat.lt_of_lt_of_le bx0_l5 hB6.size
    have bx0_0_6 : w6.cell? ⟨w.heap.size, 0, none⟩ = some (.slice A0 n0 c0) := (hB6.cell (p := ⟨w.heap.size, 0, none⟩) bx0_l5).trans bx0_0_5
    have bxx0_l6 : w4.heap.size < w6.heap.size := Nat.lt_of_lt_of_le bxx0_l5 hB6.size
    have bxx0_0_6 : w6.cell? ⟨w4.heap.size, 0, none⟩ = some (.slice (some ⟨g4, 0, none⟩) n0 n0) := (hB6.cell (p := ⟨w4.heap.size, 0, none⟩) bxx0_l5).trans bxx0_0_5
    have HA0_6 := Lib.hid (HA0_5.out.below hB6)
    have RX0_6 := Lib.hid (RX0_5.out.below hB6)
    clear bx0_l5 bx0_0_5 bxx0_l5 bxx0_0_5 HA0_5 RX0_5
    have RE0_6 := Lib.hid (hk6.rd (n := n0) (size := 3) (by rw [rowOf_length ptC_len, LA0.out]))
    refine hK.out _ _ ?_ (fun hHeld2 => ?_)
    · (try dsimp only); exact SB.mk (Below.next (by go_grown) hb6)
    have hQ0 : Below w5.heap.size w5 w6 := Below.next (by go_grown) hb6
    clear hK K hHeld; have hHeld := hHeld2; clear hHeld2; (try simp only [Act.put, List.setIfInBounds_toArray, List.set_cons_zero, List.set_cons_succ])
    refine wpAnyH_ready (rs := [3]) (by kernel_rfl) (by simp) ?_
    refine AllReadyH.cons rfl (fun K hK => ?_) AllReadyH.nil
    rw [if_pos (by rfl)]
    go_simp
    go_at_call 24
    refine (eqStroke_same _ _ n0 n0 n0 xs0 _ (by first | exact RX0_6.out | exact RX0_6.out.alloc _ | exact (RX0_6.out.alloc _).alloc _ | exact ((RX0_6.out.alloc _).alloc _).alloc _ | exact RX0_6.out.drew | exact (RX0_6.out.drew).alloc _) (by first | exact RE0_6.out | exact RE0_6.out.alloc _ | exact (RE0_6.out.alloc _).alloc _ | exact ((RE0_6.out.alloc _).alloc _).alloc _ | exact RE0_6.out.drew | exact (RE0_6.out.drew).alloc _) LA0.out hle0).mono ?_
    rintro e w7 ⟨rfl, hb7⟩
    have hB7 : Below w6.heap.size w6 w7 := Below.next (by go_grown) hb7
    have hT7 : Below w.heap.size w w7 := Below.next hT6 hB7
    have hz7 := hb7.size
    (try simp only [World.size_alloc, World.size_drew] at hz7)
    have bx0_l7 : w.heap.size < w7.heap.size := Nat.lt_of_lt_of_le bx0_l6 hB7.size
    have bx0_0_7 : w7.cell? ⟨w.heap.size, 0, none⟩ = some (.slice A0 n0 c0) := (hB7.cell (p := ⟨w.heap.size, 0, none⟩) bx0_l6).trans bx0_0_6
    have bxx0_l7 : w4.heap.size < w7.heap.size := Nat.lt_of_lt_of_le bxx0_l6 hB7.size
    have bxx0_0_7 : w7.cell? ⟨w4.heap.size, 0, none⟩ = some (.slice (some ⟨g4, 0, none⟩) n0 n0) := (hB7.cell (p := ⟨w4.heap.size, 0, none⟩) bxx0_l6).trans bxx0_0_6
    have HA0_7 := Lib.hid (HA0_6.out.below hB7)
    have RX0_7 := Lib.hid (RX0_6.out.below hB7)
    have RE0_7 := Lib.hid (RE0_6.out.below hB7)
    clear bx0_l6 bx0_0_6 bxx0_l6 bxx0_0_6 HA0_6 RX0_6 RE0_6
    refine hK.out _ _ ?_ (fun hHeld2 => ?_)
    · (try dsimp only); exact SB.mk (Below.next hQ0 hB7)
    have hQ0 : Below w5.heap.size w5 w7 := Below.next hQ0 hB7
    clear hK K hHeld; have hHeld := hHeld2; clear hHeld2; (try simp only [Act.put, List.setIfInBounds_toArray, List.set_cons_zero, List.set_cons_succ])
    first | (refine take_on (i := 4) (v := ?_) rfl (by kernel_rfl) (by kernel_rfl) (by kernel_rfl) (fun _ _ _ h => h) rfl ?_ (by assumption) ?_; rotate_left; · (intro w' hSw; (try dsimp only at hSw); go_simp; (try with_reducible rfl))) | (refine take_off (i := 4) rfl (by kernel_rfl) (by kernel_rfl) (by kernel_rfl) (fun _ _ _ h => h) rfl (by assumption) ?_)
    (try simp only [Act.put, List.setIfInBounds_toArray, List.set_cons_zero, List.set_cons_succ])
    refine wpAnyH_done (by kernel_rfl) ?_ _
    clear hHeld
    clear hQ0
    go_wp2_with fail
    go_ret
    exact ⟨rfl, by go_grown⟩

theorem law_BendOf {w : World} (s0 : St) (hs0 : s0.good w) (_ : World) :
    Calls Try.prog 13 #[.agg #[.slice s0.A s0.l.length s0.c]] w (Yes w) :=
  BendOf_walk s0.A _ _ _ hs0.2.2 rfl (Nat.le_trans hs0.1 hs0.2.1)
end Go.Proofs.Ytcglcfjonicjgaa
