/-
  The law of SameInk returns true: program and reference say the same of two inks.
-/
import Derived.Test.YtnmmnikoogjhoaaSameInk
import Derived.Test.YtnmmnikoogjhoaaInkArg
namespace Go.Proofs.Ytnmmnikoogjhoaa
set_option linter.unusedSimpArgs false
set_option linter.unusedVariables false
set_option maxRecDepth 20000
open Go.RowKit
open Go.ChangeShapes Go.WideShapes Go.Deep Go.Joins

set_option maxHeartbeats 8000000 in
theorem SameInk_walk {w : World} (A0 : Option Addr) (n0 c0 : Nat) (S0 : List St) (A1 : Option Addr) (n1 c1 : Nat) (S1 : List St) (ha0 : InkRd w A0 n0 S0) (hn0 : n0 ≤ 9223372036854775807) (hcap0 : ∀ s ∈ S0, s.l.length ≤ 9223372036854775807) (ha1 : InkRd w A1 n1 S1) (hn1 : n1 ≤ 9223372036854775807) (hcap1 : ∀ s ∈ S1, s.l.length ≤ 9223372036854775807) :
    Calls Try.prog 4 #[.agg #[.slice A0 n0 c0], .agg #[.slice A1 n1 c1]] w (Yes w) := by
  have HA0_0 := Lib.hid ha0
  have LA0 := Lib.hid ha0.len
  clear ha0
  have HA1_0 := Lib.hid ha1
  have LA1 := Lib.hid ha1.len
  clear ha1
  by_cases hle0 : n0 + sumL S0 n0 ≤ 1048576
  rotate_left
  · go_enter Try.func4, Try.ntmps4
    go_wp2_with fail
    refine (szInk_no A0 n0 c0 S0 1048576 _ (by first | exact HA0_0.out | exact HA0_0.out.alloc _ | exact (HA0_0.out.alloc _).alloc _ | exact ((HA0_0.out.alloc _).alloc _).alloc _ | exact HA0_0.out.drew | exact (HA0_0.out.drew).alloc _) hn0 hcap0 (by omega) hle0).mono ?_
    rintro e w1 ⟨rfl, hb1⟩
    have hB1 : Below w.heap.size w w1 := Below.next (by go_grown) hb1
    have hT1 : Below w.heap.size w w1 := hB1
    have hz1 := hb1.size
    (try simp only [World.size_alloc, World.size_drew] at hz1)
    have bx0_l1 : w.heap.size < w1.heap.size := by omega
    have bx0_0_1 : w1.cell? ⟨w.heap.size, 0, none⟩ = some (.slice A0 n0 c0) := (hb1.cell (p := ⟨w.heap.size, 0, none⟩) (by (try simp only [World.size_alloc, World.size_drew]); omega)).trans (by go_simp)
    have bx1_l1 : w.heap.size + 1 < w1.heap.size := by omega
    have bx1_0_1 : w1.cell? ⟨w.heap.size + 1, 0, none⟩ = some (.slice A1 n1 c1) := (hb1.cell (p := ⟨w.heap.size + 1, 0, none⟩) (by (try simp only [World.size_alloc, World.size_drew]); omega)).trans (by go_simp)
    have HA0_1 := Lib.hid (HA0_0.out.below hB1)
    have HA1_1 := Lib.hid (HA1_0.out.below hB1)
    go_wp2_with fail
    go_ret
    exact ⟨rfl, by go_grown⟩
  have hs0 := fits_each LA0.out hle0
  have hm0 : n0 ≤ 1048576 := by omega
  obtain ⟨r, hr⟩ : ∃ r, 1048576 - n0 - sumL S0 n0 = r := ⟨_, rfl⟩
  have hrr : r ≤ 1048576 := by omega
  have HLE0 := Lib.hid hle0
  by_cases hle1 : n1 + sumL S1 n1 ≤ r
  rotate_left
  · go_enter Try.func4, Try.ntmps4
    go_wp2_with fail
    refine (szInk_ok A0 n0 c0 S0 1048576 _ (by first | exact HA0_0.out | exact HA0_0.out.alloc _ | exact (HA0_0.out.alloc _).alloc _ | exact ((HA0_0.out.alloc _).alloc _).alloc _ | exact HA0_0.out.drew | exact (HA0_0.out.drew).alloc _) hn0 hcap0 (by omega) HLE0.out).mono ?_
    rintro e w1 ⟨rfl, hb1⟩
    have hB1 : Below w.heap.size w w1 := Below.next (by go_grown) hb1
    have hT1 : Below w.heap.size w w1 := hB1
    have hz1 := hb1.size
    (try simp only [World.size_alloc, World.size_drew] at hz1)
    have bx0_l1 : w.heap.size < w1.heap.size := by omega
    have bx0_0_1 : w1.cell? ⟨w.heap.size, 0, none⟩ = some (.slice A0 n0 c0) := (hb1.cell (p := ⟨w.heap.size, 0, none⟩) (by (try simp only [World.size_alloc, World.size_drew]); omega)).trans (by go_simp)
    have bx1_l1 : w.heap.size + 1 < w1.heap.size := by omega
    have bx1_0_1 : w1.cell? ⟨w.heap.size + 1, 0, none⟩ = some (.slice A1 n1 c1) := (hb1.cell (p := ⟨w.heap.size + 1, 0, none⟩) (by (try simp only [World.size_alloc, World.size_drew]); omega)).trans (by go_simp)
    have HA0_1 := Lib.hid (HA0_0.out.below hB1)
    have HA1_1 := Lib.hid (HA1_0.out.below hB1)
    rw [hr]
    go_wp2_with fail
    refine (szInk_no A1 n1 c1 S1 r _ (by first | exact HA1_1.out | exact HA1_1.out.alloc _ | exact (HA1_1.out.alloc _).alloc _ | exact ((HA1_1.out.alloc _).alloc _).alloc _ | exact HA1_1.out.drew | exact (HA1_1.out.drew).alloc _) hn1 hcap1 hrr hle1).mono ?_
    rintro e w2 ⟨rfl, hb2⟩
    have hB2 : Below w1.heap.size w1 w2 := Below.next (by go_grown) hb2
    have hT2 : Below w.heap.size w w2 := Below.next hT1 hB2
    have hz2 := hb2.size
    (try simp only [World.size_alloc, World.size_drew] at hz2)
    have bx0_l2 : w.heap.size < w2.heap.size := Nat.lt_of_lt_of_le bx0_l1 hB2.size
    have bx0_0_2 : w2.cell? ⟨w.heap.size, 0, none⟩ = some (.slice A0 n0 c0) := (hB2.cell (p := ⟨w.heap.size, 0, none⟩) bx0_l1).trans bx0_0_1
    have bx1_l2 : w.heap.size + 1 < w2.heap.size := Nat.lt_of_lt_of_le bx1_l1 hB2.size
    have bx1_0_2 : w2.cell? ⟨w.heap.size + 1, 0, none⟩ = some (.slice A1 n1 c1) := (hB2.cell (p := ⟨w.heap.size + 1, 0, none⟩) bx1_l1).trans bx1_0_1
    have HA0_2 := Lib.hid (HA0_1.out.below hB2)
    have HA1_2 := Lib.hid (HA1_1.out.below hB2)
    clear bx0_l1 bx0_0_1 bx1_l1 bx1_0_1 HA0_1 HA1_1
    go_wp2_with fail
    go_ret
    exact ⟨rfl, by go_grown⟩
  · have hs1 := fits_each LA1.out (show n1 + sumL S1 n1 ≤ 1048576 by omega)
    have hm1 : n1 ≤ 1048576 := by omega
    obtain ⟨r2, hr2⟩ : ∃ r2, r - n1 - sumL S1 n1 = r2 := ⟨_, rfl⟩
    have HLE1 := Lib.hid hle1
    go_enter Try.func4, Try.ntmps4
    go_wp2_with fail
    refine (szInk_ok A0 n0 c0 S0 1048576 _ (by first | exact HA0_0.out | exact HA0_0.out.alloc _ | exact (HA0_0.out.alloc _).alloc _ | exact ((HA0_0.out.alloc _).alloc _).alloc _ | exact HA0_0.out.drew | exact (HA0_0.out.drew).alloc _) hn0 hcap0 (by omega) HLE0.out).mono ?_
    rintro e w1 ⟨rfl, hb1⟩
    have hB1 : Below w.heap.size w w1 := Below.next (by go_grown) hb1
    have hT1 : Below w.heap.size w w1 := hB1
    have hz1 := hb1.size
    (try simp only [World.size_alloc, World.size_drew] at hz1)
    have bx0_l1 : w.heap.size < w1.heap.size := by omega
    have bx0_0_1 : w1.cell? ⟨w.heap.size, 0, none⟩ = some (.slice A0 n0 c0) := (hb1.cell (p := ⟨w.heap.size, 0, none⟩) (by (try simp only [World.size_alloc, World.size_drew]); omega)).trans (by go_simp)
    have bx1_l1 : w.heap.size + 1 < w1.heap.size := by omega
    have bx1_0_1 : w1.cell? ⟨w.heap.size + 1, 0, none⟩ = some (.slice A1 n1 c1) := (hb1.cell (p := ⟨w.heap.size + 1, 0, none⟩) (by (try simp only [World.size_alloc, World.size_drew]); omega)).trans (by go_simp)
    have HA0_1 := Lib.hid (HA0_0.out.below hB1)
    have HA1_1 := Lib.hid (HA1_0.out.below hB1)
    rw [hr]
    go_wp2_with fail
    refine (szInk_ok A1 n1 c1 S1 r _ (by first | exact HA1_1.out | exact HA1_1.out.alloc _ | exact (HA1_1.out.alloc _).alloc _ | exact ((HA1_1.out.alloc _).alloc _).alloc _ | exact HA1_1.out.drew | exact (HA1_1.out.drew).alloc _) hn1 hcap1 hrr HLE1.out).mono ?_
    rintro e w2 ⟨rfl, hb2⟩
    have hB2 : Below w1.heap.size w1 w2 := Below.next (by go_grown) hb2
    have hT2 : Below w.heap.size w w2 := Below.next hT1 hB2
    have hz2 := hb2.size
    (try simp only [World.size_alloc, World.size_drew] at hz2)
    have bx0_l2 : w.heap.size < w2.heap.size := Nat.lt_of_lt_of_le bx0_l1 hB2.size
    have bx0_0_2 : w2.cell? ⟨w.heap.size, 0, none⟩ = some (.slice A0 n0 c0) := (hB2.cell (p := ⟨w.heap.size, 0, none⟩) bx0_l1).trans bx0_0_1
    have bx1_l2 : w.heap.size + 1 < w2.heap.size := Nat.lt_of_lt_of_le bx1_l1 hB2.size
    have bx1_0_2 : w2.cell? ⟨w.heap.size + 1, 0, none⟩ = some (.slice A1 n1 c1) := (hB2.cell (p := ⟨w.heap.size + 1, 0, none⟩) bx1_l1).trans bx1_0_1
    have HA0_2 := Lib.hid (HA0_1.out.below hB2)
    have HA1_2 := Lib.hid (HA1_1.out.below hB2)
    clear bx0_l1 bx0_0_1 bx1_l1 bx1_0_1 HA0_1 HA1_1
    rw [hr2]
    go_wp2_with fail
    refine wp_region_held_drew (S := (fun w' => (∀ kb ko, kb < w2.heap.size → w'.cell? ⟨kb, ko, none⟩ = w2.cell? ⟨kb, ko, none⟩) ∧ w2.heap.size ≤ w'.heap.size ∧ Below w2.heap.size w2 w')) (by kernel_rfl) ?_ (fun hHeld => ?_)
    · (try dsimp only); (first | exact SB.mk hkB | exact SB.mk ((Below.refl _ _).drew) | (refine SB.mk ?_; go_grown; done) | (go_split_ands; refine SB.mk (Below.drew ?_); assumption) | (go_split_ands; refine SB.mk ?_; go_grown; done))
    first | (refine take_on (i := 0) (v := ?_) rfl (by kernel_rfl) (by kernel_rfl) (by kernel_rfl) (fun _ _ _ h => h) rfl ?_ (by assumption) ?_; rotate_left; · (intro w' hSw; (try dsimp only at hSw); go_simp; (try with_reducible rfl))) | (refine take_off (i := 0) rfl (by kernel_rfl) (by kernel_rfl) (by kernel_rfl) (fun _ _ _ h => h) rfl (by assumption) ?_)
    (try simp only [Act.put, List.setIfInBounds_toArray, List.set_cons_zero, List.set_cons_succ])
    first | (refine take_on (i := 2) (v := ?_) rfl (by kernel_rfl) (by kernel_rfl) (by kernel_rfl) (fun _ _ _ h => h) rfl ?_ (by assumption) ?_; rotate_left; · (intro w' hSw; (try dsimp only at hSw); go_simp; (try with_reducible rfl))) | (refine take_off (i := 2) rfl (by kernel_rfl) (by kernel_rfl) (by kernel_rfl) (fun _ _ _ h => h) rfl (by assumption) ?_)
    (try simp only [Act.put, List.setIfInBounds_toArray, List.set_cons_zero, List.set_cons_succ])
    refine wpAnyH_ready (rs := [1]) (by kernel_rfl) (by simp) ?_
    refine AllReadyH.cons rfl (fun K hK => ?_) AllReadyH.nil
    rw [if_pos (by rfl)]
    go_simp
    go_at_call 13
    refine (toInk_any A0 n0 c0 S0 _ (by first | exact HA0_2.out | exact HA0_2.out.alloc _ | exact (HA0_2.out.alloc _).alloc _ | exact ((HA0_2.out.alloc _).alloc _).alloc _ | exact HA0_2.out.drew | exact (HA0_2.out.drew).alloc _) hs0 hm0).mono ?_
    rintro e w3 ⟨g3, T3, rfl, hp3, ho3, hb3⟩
    have hB3 : Below w2.heap.size w2 w3 := Below.next (by go_grown) hb3
    have hT3 : Below w.heap.size w w3 := Below.next hT2 hB3
    have hz3 := hb3.size
    (try simp only [World.size_alloc, World.size_drew] at hz3)
    have bx0_l3 : w.heap.size < w3.heap.size := Nat.lt_of_lt_of_le bx0_l2 hB3.size
    have bx0_0_3 : w3.cell? ⟨w.heap.size, 0, none⟩ = some (.slice A0 n0 c0) := (hB3.cell (p := ⟨w.heap.size, 0, none⟩) bx0_l2).trans bx0_0_2
    have bx1_l3 : w.heap.size + 1 < w3.heap.size := Nat.lt_of_lt_of_le bx1_l2 hB3.size
    have bx1_0_3 : w3.cell? ⟨w.heap.size + 1, 0, none⟩ = some (.slice A1 n1 c1) := (hB3.cell (p := ⟨w.heap.size + 1, 0, none⟩) bx1_l2).trans bx1_0_2
    have HA0_3 := Lib.hid (HA0_2.out.below hB3)
    have HA1_3 := Lib.hid (HA1_2.out.below hB3)
    clear bx0_l2 bx0_0_2 bx1_l2 bx1_0_2 HA0_2 HA1_2
    have RS0_3 := Lib.hid (ho3.rd (len_of hp3 LA0.out))
    have RS0_s := each_of hp3 hs0
    have RS0_p := Lib.hid hp3
    clear ho3 hp3
    refine hK.out _ _ ?_ (fun hHeld2 => ?_)
    · (try dsimp only); exact SB.mk (Below.next (by go_grown) hb3)
    have hQ0 : Below w2.heap.size w2 w3 := Below.next (by go_grown) hb3
    clear hK K hHeld; have hHeld := hHeld2; clear hHeld2; (try simp only [Act.put, List.setIfInBounds_toArray, List.set_cons_zero, List.set_cons_succ])
    refine wpAnyH_ready (rs := [3]) (by kernel_rfl) (by simp) ?_
    refine AllReadyH.cons rfl (fun K hK => ?_) AllReadyH.nil
    rw [if_pos (by rfl)]
    go_simp
    go_at_call 13
    refine (toInk_any A1 n1 c1 S1 _ (by first | exact HA1_3.out | exact HA1_3.out.alloc _ | exact (HA1_3.out.alloc _).alloc _ | exact ((HA1_3.out.alloc _).alloc _).alloc _ | exact HA1_3.out.drew | exact (HA1_3.out.drew).alloc _) hs1 hm1).mono ?_
    rintro e w4 ⟨g4, T4, rfl, hp4, ho4, hb4⟩
    have hB4 : Below w3.heap.size w3 w4 := Below.next (by go_grown) hb4
    have hT4 : Below w.heap.size w w4 := Below.next hT3 hB4
    have hz4 := hb4.size
    (try simp only [World.size_alloc, World.size_drew] at hz4)
    have bx0_l4 : w.heap.size < w4.heap.size := Nat.lt_of_lt_of_le bx0_l3 hB4.size
    have bx0_0_4 : w4.cell? ⟨w.heap.size, 0, none⟩ = some (.slice A0 n0 c0) := (hB4.cell (p := ⟨w.heap.size, 0, none⟩) bx0_l3).trans bx0_0_3
    have bx1_l4 : w.heap.size + 1 < w4.heap.size := Nat.lt_of_lt_of_le bx1_l3 hB4.size
    have bx1_0_4 : w4.cell? ⟨w.heap.size + 1, 0, none⟩ = some (.slice A1 n1 c1) := (hB4.cell (p := ⟨w.heap.size + 1, 0, none⟩) bx1_l3).trans bx1_0_3
    have HA0_4 := Lib.hid (HA0_3.out.below hB4)
    have HA1_4 := Lib.hid (HA1_3.out.below hB4)
    have RS0_4 := Lib.hid (RS0_3.out.below hB4)
    clear bx0_l3 bx0_0_3 bx1_l3 bx1_0_3 HA0_3 HA1_3 RS0_3
    have RS1_4 := Lib.hid (ho4.rd (len_of hp4 LA1.out))
    have RS1_s := each_of hp4 hs1
    have RS1_p := Lib.hid hp4
    clear ho4 hp4
    refine hK.out _ _ ?_ (fun hHeld2 => ?_)
    · (try dsimp only); exact SB.mk (Below.next hQ0 hB4)
    have hQ0 : Below w2.heap.size w2 w4 := Below.next hQ0 hB4
    clear hK K hHeld; have hHeld := hHeld2; clear hHeld2; (try simp only [Act.put, List.setIfInBounds_toArray, List.set_cons_zero, List.set_cons_succ])
    refine wpAnyH_ready (rs := [4]) (by kernel_rfl) (by simp) ?_
    refine AllReadyH.cons rfl (fun K hK => ?_) AllReadyH.nil
    rw [if_pos (by rfl)]
    go_simp
    go_at_call 16
    refine (sSameInk _ _ n0 n1 n0 n1 T3 T4 (ptsOf S0) (ptsOf S1) _ (by first | exact RS0_4.out | exact RS0_4.out.alloc _ | exact (RS0_4.out.alloc _).alloc _ | exact ((RS0_4.out.alloc _).alloc _).alloc _ | exact RS0_4.out.drew | exact (RS0_4.out.drew).alloc _) (by first | exact RS1_4.out | exact RS1_4.out.alloc _ | exact (RS1_4.out.alloc _).alloc _ | exact ((RS1_4.out.alloc _).alloc _).alloc _ | exact RS1_4.out.drew | exact (RS1_4.out.drew).alloc _) RS0_p.out RS1_p.out RS0_s RS1_s hm0 hm1).mono ?_
    rintro e w5 ⟨rfl, hb5⟩
    have hB5 : Below w4.heap.size w4 w5 := Below.next (by go_grown) hb5
    have hT5 : Below w.heap.size w w5 := Below.next hT4 hB5
    have hz5 := hb5.size
    (try simp only [World.size_alloc, World.size_drew] at hz5)
    have bx0_l5 : w.heap.size < w5.heap.size := Nat.lt_of_lt_of_le bx0_l4 hB5.size
    have bx0_0_5 : w5.cell? ⟨w.heap.size, 0, none⟩ = some (.slice A0 n0 c0) := (hB5.cell (p := ⟨w.heap.size, 0, none⟩) bx0_l4).trans bx0_0_4
    have bx1_l5 : w.heap.size + 1 < w5.heap.size := Nat.lt_of_lt_of_le bx1_l4 hB5.size
    have bx1_0_5 : w5.cell? ⟨w.heap.size + 1, 0, none⟩ = some (.slice A1 n1 c1) := (hB5.cell (p := ⟨w.heap.size + 1, 0, none⟩) bx1_l4).trans bx1_0_4
    have HA0_5 := Lib.hid (HA0_4.out.below hB5)
    have HA1_5 := Lib.hid (HA1_4.out.below hB5)
    have RS0_5 := Lib.hid (RS0_4.out.below hB5)
    have RS1_5 := Lib.hid (RS1_4.out.below hB5)
    clear bx0_l4 bx0_0_4 bx1_l4 bx1_0_4 HA0_4 HA1_4 RS0_4 RS1_4
    refine hK.out _ _ ?_ (fun hHeld2 => ?_)
    · (try dsimp only); exact SB.mk (Below.next hQ0 hB5)
    have hQ0 : Below w2.heap.size w2 w5 := Below.next hQ0 hB5
    clear hK K hHeld; have hHeld := hHeld2; clear hHeld2; (try simp only [Act.put, List.setIfInBounds_toArray, List.set_cons_zero, List.set_cons_succ])
    first | (refine take_on (i := 5) (v := ?_) rfl (by kernel_rfl) (by kernel_rfl) (by kernel_rfl) (fun _ _ _ h => h) rfl ?_ (by assumption) ?_; rotate_left; · (intro w' hSw; (try dsimp only at hSw); go_simp; (try with_reducible rfl))) | (refine take_off (i := 5) rfl (by kernel_rfl) (by kernel_rfl) (by kernel_rfl) (fun _ _ _ h => h) rfl (by assumption) ?_)
    (try simp only [Act.put, List.setIfInBounds_toArray, List.set_cons_zero, List.set_cons_succ])
    refine wpAnyH_done (by kernel_rfl) ?_ _
    clear hHeld
    clear hQ0
    go_wp2_with fail
    refine (toInk_any A0 n0 c0 S0 _ (by first | exact HA0_5.out | exact HA0_5.out.alloc _ | exact (HA0_5.out.alloc _).alloc _ | exact ((HA0_5.out.alloc _).alloc _).alloc _ | exact HA0_5.out.drew | exact (HA0_5.out.drew).alloc _) hs0 hm0).mono ?_
    rintro e w6 ⟨g6, T6, rfl, hp6, ho6, hb6⟩
    have hB6 : Below w5.heap.size w5 w6 := Below.next (by go_grown) hb6
    have hT6 : Below w.heap.size w w6 := Below.next hT5 hB6
    have hz6 := hb6.size
    (try simp only [World.size_alloc, World.size_drew] at hz6)
    have bx0_l6 : w.heap.size < w6.heap.size := Nat.lt_of_lt_of_le bx0_l5 hB6.size
    have bx0_0_6 : w6.cell? ⟨w.heap.size, 0, none⟩ = some (.slice A0 n0 c0) := (hB6.cell (p := ⟨w.heap.size, 0, none⟩) bx0_l5).trans bx0_0_5
    have bx1_l6 : w.heap.size + 1 < w6.heap.size := Nat.lt_of_lt_of_le bx1_l5 hB6.size
    have bx1_0_6 : w6.cell? ⟨w.heap.size + 1, 0, none⟩ = some (.slice A1 n1 c1) := (hB6.cell (p := ⟨w.heap.size + 1, 0, none⟩) bx1_l5).trans bx1_0_5
    have HA0_6 := Lib.hid (HA0_5.out.below hB6)
    have HA1_6 := Lib.hid (HA1_5.out.below hB6)
    clear bx0_l5 bx0_0_5 bx1_l5 bx1_0_5 HA0_5 HA1_5
    have RX0_6 := Lib.hid (ho6.rd (len_of hp6 LA0.out))
    have RX0_s := each_of hp6 hs0
    have RX0_p := Lib.hid hp6
    clear ho6 hp6
    go_wp2_with fail
    refine (toInk_any A1 n1 c1 S1 _ (by first | exact HA1_6.out | exact HA1_6.out.alloc _ | exact (HA1_6.out.alloc _).alloc _ | exact ((HA1_6.out.alloc _).alloc _).alloc _ | exact HA1_6.out.drew | exact (HA1_6.out.drew).alloc _) hs1 hm1).mono ?_
    rintro e w7 ⟨g7, T7, rfl, hp7, ho7, hb7⟩
    have hB7 : Below w6.heap.size w6 w7 := Below.next (by go_grown) hb7
    have hT7 : Below w.heap.size w w7 := Below.next hT6 hB7
    have hz7 := hb7.size
    (try simp only [World.size_alloc, World.size_drew] at hz7)
    have bx0_l7 : w.heap.size < w7.heap.size := Nat.lt_of_lt_of_le bx0_l6 hB7.size
    have bx0_0_7 : w7.cell? ⟨w.heap.size, 0, none⟩ = some (.slice A0 n0 c0) := (hB7.cell (p := ⟨w.heap.size, 0, none⟩) bx0_l6).trans bx0_0_6
    have bx1_l7 : w.heap.size + 1 < w7.heap.size := Nat.lt_of_lt_of_le bx1_l6 hB7.size
    have bx1_0_7 : w7.cell? ⟨w.heap.size + 1, 0, none⟩ = some (.slice A1 n1 c1) := (hB7.cell (p := ⟨w.heap.size + 1, 0, none⟩) bx1_l6).trans bx1_0_6
    have bxx0_l7 : w6.heap.size < w7.heap.size := by omega
    have bxx0_0_7 : w7.cell? ⟨w6.heap.size, 0, none⟩ = some (.slice (some ⟨g6, 0, none⟩) n0 n0) := (hb7.cell (p := ⟨w6.heap.size, 0, none⟩) (by (try simp only [World.size_alloc, World.size_drew]); omega)).trans (by go_simp)
    have HA0_7 := Lib.hid (HA0_6.out.below hB7)
    have HA1_7 := Lib.hid (HA1_6.out.below hB7)
    have RX0_7 := Lib.hid (RX0_6.out.below hB7)
    clear bx0_l6 bx0_0_6 bx1_l6 bx1_0_6 HA0_6 HA1_6 RX0_6
    have RX1_7 := Lib.hid (ho7.rd (len_of hp7 LA1.out))
    have RX1_s := each_of hp7 hs1
    have RX1_p := Lib.hid hp7
    clear ho7 hp7
    go_wp2_with fail
    refine (iSameInk _ _ n0 n1 n0 n1 T6 T7 (ptsOf S0) (ptsOf S1) _ (by first | exact RX0_7.out | exact RX0_7.out.alloc _ | exact (RX0_7.out.alloc _).alloc _ | exact ((RX0_7.out.alloc _).alloc _).alloc _ | exact RX0_7.out.drew | exact (RX0_7.out.drew).alloc _) (by first | exact RX1_7.out | exact RX1_7.out.alloc _ | exact (RX1_7.out.alloc _).alloc _ | exact ((RX1_7.out.alloc _).alloc _).alloc _ | exact RX1_7.out.drew | exact (RX1_7.out.drew).alloc _) RX0_p.out RX1_p.out RX0_s RX1_s hm0 hm1).mono ?_
    rintro e w8 ⟨rfl, hb8⟩
    have hB8 : Below w7.heap.size w7 w8 := Below.next (by go_grown) hb8
    have hT8 : Below w.heap.size w w8 := Below.next hT7 hB8
    have hz8 := hb8.size
    (try simp only [World.size_alloc, World.size_drew] at hz8)
    have bx0_l8 : w.heap.size < w8.heap.size := Nat.lt_of_lt_of_le bx0_l7 hB8.size
    have bx0_0_8 : w8.cell? ⟨w.heap.size, 0, none⟩ = some (.slice A0 n0 c0) := (hB8.cell (p := ⟨w.heap.size, 0, none⟩) bx0_l7).trans bx0_0_7
    have bx1_l8 : w.heap.size + 1 < w8.heap.size := Nat.lt_of_lt_of_le bx1_l7 hB8.size
    have bx1_0_8 : w8.cell? ⟨w.heap.size + 1, 0, none⟩ = some (.slice A1 n1 c1) := (hB8.cell (p := ⟨w.heap.size + 1, 0, none⟩) bx1_l7).trans bx1_0_7
    have bxx0_l8 : w6.heap.size < w8.heap.size := Nat.lt_of_lt_of_le bxx0_l7 hB8.size
    have bxx0_0_8 : w8.cell? ⟨w6.heap.size, 0, none⟩ = some (.slice (some ⟨g6, 0, none⟩) n0 n0) := (hB8.cell (p := ⟨w6.heap.size, 0, none⟩) bxx0_l7).trans bxx0_0_7
    have bxx1_l8 : w7.heap.size < w8.heap.size := by omega
    have bxx1_0_8 : w8.cell? ⟨w7.heap.size, 0, none⟩ = some (.slice (some ⟨g7, 0, none⟩) n1 n1) := (hb8.cell (p := ⟨w7.heap.size, 0, none⟩) (by (try simp only [World.size_alloc, World.size_drew]); omega)).trans (by go_simp)
    have HA0_8 := Lib.hid (HA0_7.out.below hB8)
    have HA1_8 := Lib.hid (HA1_7.out.below hB8)
    have RX0_8 := Lib.hid (RX0_7.out.below hB8)
    have RX1_8 := Lib.hid (RX1_7.out.below hB8)
    clear bx0_l7 bx0_0_7 bx1_l7 bx1_0_7 bxx0_l7 bxx0_0_7 HA0_7 HA1_7 RX0_7 RX1_7
    go_wp2_with fail
    refine wp_region_held_drew (S := (fun w' => (∀ kb ko, kb < w8.heap.size → w'.cell? ⟨kb, ko, none⟩ = w8.cell? ⟨kb, ko, none⟩) ∧ w8.heap.size ≤ w'.heap.size ∧ Below w8.heap.size w8 w')) (by kernel_rfl) ?_ (fun hHeld => ?_)
    · (try dsimp only); (first | exact SB.mk hkB | exact SB.mk ((Below.refl _ _).drew) | (refine SB.mk ?_; go_grown; done) | (go_split_ands; refine SB.mk (Below.drew ?_); assumption) | (go_split_ands; refine SB.mk ?_; go_grown; done))
    first | (refine take_on (i := 0) (v := ?_) rfl (by kernel_rfl) (by kernel_rfl) (by kernel_rfl) (fun _ _ _ h => h) rfl ?_ (by assumption) ?_; rotate_left; · (intro w' hSw; (try dsimp only at hSw); go_simp; (try with_reducible rfl))) | (refine take_off (i := 0) rfl (by kernel_rfl) (by kernel_rfl) (by kernel_rfl) (fun _ _ _ h => h) rfl (by assumption) ?_)
    (try simp only [Act.put, List.setIfInBounds_toArray, List.set_cons_zero, List.set_cons_succ])
    first | (refine take_on (i := 1) (v := ?_) rfl (by kernel_rfl) (by kernel_rfl) (by kernel_rfl) (fun _ _ _ h => h) rfl ?_ (by assumption) ?_; rotate_left; · (intro w' hSw; (try dsimp only at hSw); go_simp; (try with_reducible rfl))) | (refine take_off (i := 1) rfl (by kernel_rfl) (by kernel_rfl) (by kernel_rfl) (fun _ _ _ h => h) rfl (by assumption) ?_)
    (try simp only [Act.put, List.setIfInBounds_toArray, List.set_cons_zero, List.set_cons_succ])
    refine wpAnyH_ready (rs := [2]) (by kernel_rfl) (by simp) ?_
    refine AllReadyH.cons rfl (fun K hK => ?_) AllReadyH.nil
    rw [if_pos (by rfl)]
    go_simp
    go_at_call 13
    refine (toInk_any A0 n0 c0 S0 _ (by first | exact HA0_8.out | exact HA0_8.out.alloc _ | exact (HA0_8.out.alloc _).alloc _ | exact ((HA0_8.out.alloc _).alloc _).alloc _ | exact HA0_8.out.drew | exact (HA0_8.out.drew).alloc _) hs0 hm0).mono ?_
    rintro e w9 ⟨g9, T9, rfl, hp9, ho9, hb9⟩
    have hB9 : Below w8.heap.size w8 w9 := Below.next (by go_grown) hb9
    have hT9 : Below w.heap.size w w9 := Below.next hT8 hB9
    have hz9 := hb9.size
    (try simp only [World.size_alloc, World.size_drew] at hz9)
    have bx0_l9 : w.heap.size < w9.heap.size := Nat.lt_of_lt_of_le bx0_l8 hB9.size
    have bx0_0_9 : w9.cell? ⟨w.heap.size, 0, none⟩ = some (.slice A0 n0 c0) := (hB9.cell (p := ⟨w.heap.size, 0, none⟩) bx0_l8).trans bx0_0_8
    have bx1_l9 : w.heap.size + 1 < w9.heap.size := Nat.lt_of_lt_of_le bx1_l8 hB9.size
    have bx1_0_9 : w9.cell? ⟨w.heap.size + 1, 0, none⟩ = some (.slice A1 n1 c1) := (hB9.cell (p := ⟨w.heap.size + 1, 0, none⟩) bx1_l8).trans bx1_0_8
    have bxx0_l9 : w6.heap.size < w9.heap.size := Nat.lt_of_lt_of_le bxx0_l8 hB9.size
    have bxx0_0_9 : w9.cell? ⟨w6.heap.size, 0, none⟩ = some (.slice (some ⟨g6, 0, none⟩) n0 n0) := (hB9.cell (p := ⟨w6.heap.size, 0, none⟩) bxx0_l8).trans bxx0_0_8
    have bxx1_l9 : w7.heap.size < w9.heap.size := Nat.lt_of_lt_of_le bxx1_l8 hB9.size
    have bxx1_0_9 : w9.cell? ⟨w7.heap.size, 0, none⟩ = some (.slice (some ⟨g7, 0, none⟩) n1 n1) := (hB9.cell (p := ⟨w7.heap.size, 0, none⟩) bxx1_l8).trans bxx1_0_8
    have HA0_9 := Lib.hid (HA0_8.out.below hB9)
    have HA1_9 := Lib.hid (HA1_8.out.below hB9)
    have RX0_9 := Lib.hid (RX0_8.out.below hB9)
    have RX1_9 := Lib.hid (RX1_8.out.below hB9)
    clear bx0_l8 bx0_0_8 bx1_l8 bx1_0_8 bxx0_l8 bxx0_0_8 bxx1_l8 bxx1_0_8 HA0_8 HA1_8 RX0_8 RX1_8
    have RE0_9 := Lib.hid (ho9.rd (len_of hp9 LA0.out))
    have RE0_s := each_of hp9 hs0
    have RE0_p := Lib.hid hp9
    clear ho9 hp9
    refine hK.out _ _ ?_ (fun hHeld2 => ?_)
    · (try dsimp only); exact SB.mk (Below.next (by go_grown) hb9)
    have hQ0 : Below w8.heap.size w8 w9 := Below.next (by go_grown) hb9
    clear hK K hHeld; have hHeld := hHeld2; clear hHeld2; (try simp only [Act.put, List.setIfInBounds_toArray, List.set_cons_zero, List.set_cons_succ])
    refine wpAnyH_ready (rs := [3]) (by kernel_rfl) (by simp) ?_
    refine AllReadyH.cons rfl (fun K hK => ?_) AllReadyH.nil
    rw [if_pos (by rfl)]
    go_simp
    go_at_call 15
    refine (eqInk_same _ _ n0 n0 n0 T6 T9 _ (by first | exact RX0_9.out | exact RX0_9.out.alloc _ | exact (RX0_9.out.alloc _).alloc _ | exact ((RX0_9.out.alloc _).alloc _).alloc _ | exact RX0_9.out.drew | exact (RX0_9.out.drew).alloc _) (by first | exact RE0_9.out | exact RE0_9.out.alloc _ | exact (RE0_9.out.alloc _).alloc _ | exact ((RE0_9.out.alloc _).alloc _).alloc _ | exact RE0_9.out.drew | exact (RE0_9.out.drew).alloc _) (RX0_p.out.trans RE0_p.out.symm) RX0_s hm0).mono ?_
    rintro e w10 ⟨rfl, hb10⟩
    have hB10 : Below w9.heap.size w9 w10 := Below.next (by go_grown) hb10
    have hT10 : Below w.heap.size w w10 := Below.next hT9 hB10
    have hz10 := hb10.size
    (try simp only [World.size_alloc, World.size_drew] at hz10)
    have bx0_l10 : w.heap.size < w10.heap.size := Nat.lt_of_lt_of_le bx0_l9 hB10.size
    have bx0_0_10 : w10.cell? ⟨w.heap.size, 0, none⟩ = some (.slice A0 n0 c0) := (hB10.cell (p := ⟨w.heap.size, 0, none⟩) bx0_l9).trans bx0_0_9
    have bx1_l10 : w.heap.size + 1 < w10.heap.size := Nat.lt_of_lt_of_le bx1_l9 hB10.size
    have bx1_0_10 : w10.cell? ⟨w.heap.size + 1, 0, none⟩ = some (.slice A1 n1 c1) := (hB10.cell (p := ⟨w.heap.size + 1, 0, none⟩) bx1_l9).trans bx1_0_9
    have bxx0_l10 : w6.heap.size < w10.heap.size := Nat.lt_of_lt_of_le bxx0_l9 hB10.size
    have bxx0_0_10 : w10.cell? ⟨w6.heap.size, 0, none⟩ = some (.slice (some ⟨g6, 0, none⟩) n0 n0) := (hB10.cell (p := ⟨w6.heap.size, 0, none⟩) bxx0_l9).trans bxx0_0_9
    have bxx1_l10 : w7.heap.size < w10.heap.size := Nat.lt_of_lt_of_le bxx1_l9 hB10.size
    have bxx1_0_10 : w10.cell? ⟨w7.heap.size, 0, none⟩ = some (.slice (some ⟨g7, 0, none⟩) n1 n1) := (hB10.cell (p := ⟨w7.heap.size, 0, none⟩) bxx1_l9).trans bxx1_0_9
    have HA0_10 := Lib.hid (HA0_9.out.below hB10)
    have HA1_10 := Lib.hid (HA1_9.out.below hB10)
    have RX0_10 := Lib.hid (RX0_9.out.below hB10)
    have RX1_10 := Lib.hid (RX1_9.out.below hB10)
    have RE0_10 := Lib.hid (RE0_9.out.below hB10)
    clear bx0_l9 bx0_0_9 bx1_l9 bx1_0_9 bxx0_l9 bxx0_0_9 bxx1_l9 bxx1_0_9 HA0_9 HA1_9 RX0_9 RX1_9 RE0_9
    refine hK.out _ _ ?_ (fun hHeld2 => ?_)
    · (try dsimp only); exact SB.mk (Below.next hQ0 hB10)
    have hQ0 : Below w8.heap.size w8 w10 := Below.next hQ0 hB10
    clear hK K hHeld; have hHeld := hHeld2; clear hHeld2; (try simp only [Act.put, List.setIfInBounds_toArray, List.set_cons_zero, List.set_cons_succ])
    first | (refine take_on (i := 4) (v := ?_) rfl (by kernel_rfl) (by kernel_rfl) (by kernel_rfl) (fun _ _ _ h => h) rfl ?_ (by assumption) ?_; rotate_left; · (intro w' hSw; (try dsimp only at hSw); go_simp; (try with_reducible rfl))) | (refine take_off (i := 4) rfl (by kernel_rfl) (by kernel_rfl) (by kernel_rfl) (fun _ _ _ h => h) rfl (by assumption) ?_)
    (try simp only [Act.put, List.setIfInBounds_toArray, List.set_cons_zero, List.set_cons_succ])
    refine wpAnyH_done (by kernel_rfl) ?_ _
    clear hHeld
    clear hQ0
    go_wp2_with fail
    refine wp_region_held_drew (S := (fun w' => (∀ kb ko, kb < w10.heap.size → w'.cell? ⟨kb, ko, none⟩ = w10.cell? ⟨kb, ko, none⟩) ∧ w10.heap.size ≤ w'.heap.size ∧ Below w10.heap.size w10 w')) (by kernel_rfl) ?_ (fun hHeld => ?_)
    · (try dsimp only); (first | exact SB.mk hkB | exact SB.mk ((Below.refl _ _).drew) | (refine SB.mk ?_; go_grown; done) | (go_split_ands; refine SB.mk (Below.drew ?_); assumption) | (go_split_ands; refine SB.mk ?_; go_grown; done))
    first | (refine take_on (i := 0) (v := ?_) rfl (by kernel_rfl) (by kernel_rfl) (by kernel_rfl) (fun _ _ _ h => h) rfl ?_ (by assumption) ?_; rotate_left; · (intro w' hSw; (try dsimp only at hSw); go_simp; (try with_reducible rfl))) | (refine take_off (i := 0) rfl (by kernel_rfl) (by kernel_rfl) (by kernel_rfl) (fun _ _ _ h => h) rfl (by assumption) ?_)
    (try simp only [Act.put, List.setIfInBounds_toArray, List.set_cons_zero, List.set_cons_succ])
    first | (refine take_on (i := 1) (v := ?_) rfl (by kernel_rfl) (by kernel_rfl) (by kernel_rfl) (fun _ _ _ h => h) rfl ?_ (by assumption) ?_; rotate_left; · (intro w' hSw; (try dsimp only at hSw); go_simp; (try with_reducible rfl))) | (refine take_off (i := 1) rfl (by kernel_rfl) (by kernel_rfl) (by kernel_rfl) (fun _ _ _ h => h) rfl (by assumption) ?_)
    (try simp only [Act.put, List.setIfInBounds_toArray, List.set_cons_zero, List.set_cons_succ])
    refine wpAnyH_ready (rs := [2]) (by kernel_rfl) (by simp) ?_
    refine AllReadyH.cons rfl (fun K hK => ?_) AllReadyH.nil
    rw [if_pos (by rfl)]
    go_simp
    go_at_call 13
    refine (toInk_any A1 n1 c1 S1 _ (by first | exact HA1_10.out | exact HA1_10.out.alloc _ | exact (HA1_10.out.alloc _).alloc _ | exact ((HA1_10.out.alloc _).alloc _).alloc _ | exact HA1_10.out.drew | exact (HA1_10.out.drew).alloc _) hs1 hm1).mono ?_
    rintro e w11 ⟨g11, T11, rfl, hp11, ho11, hb11⟩
    have hB11 : Below w10.heap.size w10 w11 := Below.next (by go_grown) hb11
    have hT11 : Below w.heap.size w w11 := Below.next hT10 hB11
    have hz11 := hb11.size
    (try simp only [World.size_alloc, World.size_drew] at hz11)
    have bx0_l11 : w.heap.size < w11.heap.size := Nat.lt_of_lt_of_le bx0_l10 hB11.size
    have bx0_0_11 : w11.cell? ⟨w.heap.size, 0, none⟩ = some (.slice A0 n0 c0) := (hB11.cell (p := ⟨w.heap.size, 0, none⟩) bx0_l10).trans bx0_0_10
    have bx1_l11 : w.heap.size + 1 < w11.heap.size := Nat.lt_of_lt_of_le bx1_l10 hB11.size
    have bx1_0_11 : w11.cell? ⟨w.heap.size + 1, 0, none⟩ = some (.slice A1 n1 c1) := (hB11.cell (p := ⟨w.heap.size + 1, 0, none⟩) bx1_l10).trans bx1_0_10
    have bxx0_l11 : w6.heap.size < w11.heap.size := Nat.lt_of_lt_of_le bxx0_l10 hB11.size
    have bxx0_0_11 : w11.cell? ⟨w6.heap.size, 0, none⟩ = some (.slice (some ⟨g6, 0, none⟩) n0 n0) := (hB11.cell (p := ⟨w6.heap.size, 0, none⟩) bxx0_l10).trans bxx0_0_10
    have bxx1_l11 : w7.heap.size < w11.heap.size := Nat.lt_of_lt_of_le bxx1_l10 hB11.size
    have bxx1_0_11 : w11.cell? ⟨w7.heap.size, 0, none⟩ = some (.slice (some ⟨g7, 0, none⟩) n1 n1) := (hB11.cell (p := ⟨w7.heap.size, 0, none⟩) bxx1_l10).trans bxx1_0_10
    have HA0_11 := Lib.hid (HA0_10.out.below hB11)
    have HA1_11 := Lib.hid (HA1_10.out.below hB11)
    have RX0_11 := Lib.hid (RX0_10.out.below hB11)
    have RX1_11 := Lib.hid (RX1_10.out.below hB11)
    clear bx0_l10 bx0_0_10 bx1_l10 bx1_0_10 bxx0_l10 bxx0_0_10 bxx1_l10 bxx1_0_10 HA0_10 HA1_10 RX0_10 RX1_10
    have RE1_11 := Lib.hid (ho11.rd (len_of hp11 LA1.out))
    have RE1_s := each_of hp11 hs1
    have RE1_p := Lib.hid hp11
    clear ho11 hp11
    refine hK.out _ _ ?_ (fun hHeld2 => ?_)
    · (try dsimp only); exact SB.mk (Below.next (by go_grown) hb11)
    have hQ0 : Below w10.heap.size w10 w11 := Below.next (by go_grown) hb11
    clear hK K hHeld; have hHeld := hHeld2; clear hHeld2; (try simp only [Act.put, List.setIfInBounds_toArray, List.set_cons_zero, List.set_cons_succ])
    refine wpAnyH_ready (rs := [3]) (by kernel_rfl) (by simp) ?_
    refine AllReadyH.cons rfl (fun K hK => ?_) AllReadyH.nil
    rw [if_pos (by rfl)]
    go_simp
    go_at_call 15
    refine (eqInk_same _ _ n1 n1 n1 T7 T11 _ (by first | exact RX1_11.out | exact RX1_11.out.alloc _ | exact (RX1_11.out.alloc _).alloc _ | exact ((RX1_11.out.alloc _).alloc _).alloc _ | exact RX1_11.out.drew | exact (RX1_11.out.drew).alloc _) (by first | exact RE1_11.out | exact RE1_11.out.alloc _ | exact (RE1_11.out.alloc _).alloc _ | exact ((RE1_11.out.alloc _).alloc _).alloc _ | exact RE1_11.out.drew | exact (RE1_11.out.drew).alloc _) (RX1_p.out.trans RE1_p.out.symm) RX1_s hm1).mono ?_
    rintro e w12 ⟨rfl, hb12⟩
    have hB12 : Below w11.heap.size w11 w12 := Below.next (by go_grown) hb12
    have hT12 : Below w.heap.size w w12 := Below.next hT11 hB12
    have hz12 := hb12.size
    (try simp only [World.size_alloc, World.size_drew] at hz12)
    have bx0_l12 : w.heap.size < w12.heap.size := Nat.lt_of_lt_of_le bx0_l11 hB12.size
    have bx0_0_12 : w12.cell? ⟨w.heap.size, 0, none⟩ = some (.slice A0 n0 c0) := (hB12.cell (p := ⟨w.heap.size, 0, none⟩) bx0_l11).trans bx0_0_11
    have bx1_l12 : w.heap.size + 1 < w12.heap.size := Nat.lt_of_lt_of_le bx1_l11 hB12.size
    have bx1_0_12 : w12.cell? ⟨w.heap.size + 1, 0, none⟩ = some (.slice A1 n1 c1) := (hB12.cell (p := ⟨w.heap.size + 1, 0, none⟩) bx1_l11).trans bx1_0_11
    have bxx0_l12 : w6.heap.size < w12.heap.size := Nat.lt_of_lt_of_le bxx0_l11 hB12.size
    have bxx0_0_12 : w12.cell? ⟨w6.heap.size, 0, none⟩ = some (.slice (some ⟨g6, 0, none⟩) n0 n0) := (hB12.cell (p := ⟨w6.heap.size, 0, none⟩) bxx0_l11).trans bxx0_0_11
    have bxx1_l12 : w7.heap.size < w12.heap.size := Nat.lt_of_lt_of_le bxx1_l11 hB12.size
    have bxx1_0_12 : w12.cell? ⟨w7.heap.size, 0, none⟩ = some (.slice (some ⟨g7, 0, none⟩) n1 n1) := (hB12.cell (p := ⟨w7.heap.size, 0, none⟩) bxx1_l11).trans bxx1_0_11
    have HA0_12 := Lib.hid (HA0_11.out.below hB12)
    have HA1_12 := Lib.hid (HA1_11.out.below hB12)
    have RX0_12 := Lib.hid (RX0_11.out.below hB12)
    have RX1_12 := Lib.hid (RX1_11.out.below hB12)
    have RE1_12 := Lib.hid (RE1_11.out.below hB12)
    clear bx0_l11 bx0_0_11 bx1_l11 bx1_0_11 bxx0_l11 bxx0_0_11 bxx1_l11 bxx1_0_11 HA0_11 HA1_11 RX0_11 RX1_11 RE1_11
    refine hK.out _ _ ?_ (fun hHeld2 => ?_)
    · (try dsimp only); exact SB.mk (Below.next hQ0 hB12)
    have hQ0 : Below w10.heap.size w10 w12 := Below.next hQ0 hB12
    clear hK K hHeld; have hHeld := hHeld2; clear hHeld2; (try simp only [Act.put, List.setIfInBounds_toArray, List.set_cons_zero, List.set_cons_succ])
    first | (refine take_on (i := 4) (v := ?_) rfl (by kernel_rfl) (by kernel_rfl) (by kernel_rfl) (fun _ _ _ h => h) rfl ?_ (by assumption) ?_; rotate_left; · (intro w' hSw; (try dsimp only at hSw); go_simp; (try with_reducible rfl))) | (refine take_off (i := 4) rfl (by kernel_rfl) (by kernel_rfl) (by kernel_rfl) (fun _ _ _ h => h) rfl (by assumption) ?_)
    (try simp only [Act.put, List.setIfInBounds_toArray, List.set_cons_zero, List.set_cons_succ])
    refine wpAnyH_done (by kernel_rfl) ?_ _
    clear hHeld
    clear hQ0
    go_wp2_with fail
    go_ret
    exact ⟨rfl, by go_grown⟩

theorem law_SameInk {w : World} (s : Ik) (hs : s.good w) (t : Ik) (ht : t.good w) (_ : World) :
    Calls Try.prog 4 #[.agg #[.slice s.A s.l.length s.c], .agg #[.slice t.A t.l.length t.c]] w (Yes w) :=
  SameInk_walk s.A _ _ s.l t.A _ _ t.l hs.2.2.1 (Nat.le_trans hs.1 hs.2.1) (Ik.caps hs) ht.2.2.1 (Nat.le_trans ht.1 ht.2.1) (Ik.caps ht)
end Go.Proofs.Ytnmmnikoogjhoaa
