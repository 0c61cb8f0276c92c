/-
  The law of StrokeArea returns true: program and reference compute the same area, or refuse alike.
-/
import Derived.Test.YtcglcfjonicjgaaArea
import Derived.Test.YtcglcfjonicjgaaPtsEq
namespace Go.Proofs.Ytcglcfjonicjgaa
set_option linter.unusedSimpArgs false
set_option linter.unusedVariables false
open Go.RowKit

set_option maxHeartbeats 4000000 in
theorem StrokeArea_walk {w : World} (A : Option Addr) (n c : Nat) (xs : List Pt) (ha : Rd w A n 3 (rowOf ptC xs)) (la : xs.length = n) (hn : n ≤ 9223372036854775807) :
    Calls Try.prog 5 #[.agg #[.slice A n c]] w (Yes w) := by
  have HA_0 := Lib.hid ha
  have LA := Lib.hid la
  clear ha la
  by_cases hle : n ≤ 1048576
  · go_enter Try.func5, Try.ntmps5
    go_wp2_with fail
    refine (szStroke_ok A n c 1048576 _ hn (by omega) hle).mono ?_
    rintro e w1 ⟨rfl, hb1⟩
    have hB1 : Below w.heap.size w w1 := Below.next (by go_grown) hb1
    have hT1 : Below w.heap.size w w1 := hB1
    have hz1 := hb1.size
    (try simp only [World.size_alloc, World.size_drew] at hz1)
    have bx_l1 : w.heap.size < w1.heap.size := by omega
    have bx_0_1 : w1.cell? ⟨w.heap.size, 0, none⟩ = some (.slice A n c) := (hb1.cell (p := ⟨w.heap.size, 0, none⟩) (by (try simp only [World.size_alloc, World.size_drew]); omega)).trans (by go_simp)
    have HA_1 := Lib.hid (HA_0.out.below hB1)
    go_wp2_with fail
    refine (toStroke_any A n c xs _ (by first | exact HA_1.out | exact HA_1.out.alloc _ | exact (HA_1.out.alloc _).alloc _ | exact ((HA_1.out.alloc _).alloc _).alloc _ | exact HA_1.out.drew | exact (HA_1.out.drew).alloc _) LA.out hle).mono ?_
    rintro e w2 ⟨g2, rfl, hg2, hk2, hb2⟩
    have hB2 : Below w1.heap.size w1 w2 := Below.next (by go_grown) hb2
    have hT2 : Below w.heap.size w w2 := Below.next hT1 hB2
    have hz2 := hb2.size
    (try simp only [World.size_alloc, World.size_drew] at hz2)
    have bx_l2 : w.heap.size < w2.heap.size := Nat.lt_of_lt_of_le bx_l1 hB2.size
    have bx_0_2 : w2.cell? ⟨w.heap.size, 0, none⟩ = some (.slice A n c) := (hB2.cell (p := ⟨w.heap.size, 0, none⟩) bx_l1).trans bx_0_1
    have HA_2 := Lib.hid (HA_1.out.below hB2)
    clear bx_l1 bx_0_1 HA_1
    have RS_2 := Lib.hid (hk2.rd (n := n) (size := 3) (by rw [rowOf_length ptC_len, LA.out]))
    go_wp2_with fail
    refine (sStrokeArea _ n n xs _ (by first | exact RS_2.out | exact RS_2.out.alloc _ | exact (RS_2.out.alloc _).alloc _ | exact ((RS_2.out.alloc _).alloc _).alloc _ | exact RS_2.out.drew | exact (RS_2.out.drew).alloc _) LA.out hle).mono ?_
    rintro e w3 ⟨rfl, hb3⟩
    have hB3 : Below w2.heap.size w2 w3 := Below.next (by go_grown) hb3
    have hT3 : Below w.heap.size w w3 := Below.next hT2 hB3
    have hz3 := hb3.size
    (try simp only [World.size_alloc, World.size_drew] at hz3)
    have bx_l3 : w.heap.size < w3.heap.size := Nat.lt_of_lt_of_le bx_l2 hB3.size
    have bx_0_3 : w3.cell? ⟨w.heap.size, 0, none⟩ = some (.slice A n c) := (hB3.cell (p := ⟨w.heap.size, 0, none⟩) bx_l2).trans bx_0_2
    have HA_3 := Lib.hid (HA_2.out.below hB3)
    have RS_3 := Lib.hid (RS_2.out.below hB3)
    clear bx_l2 bx_0_2 HA_2 RS_2
    go_wp2_with fail
    refine (toStroke_any A n c xs _ (by first | exact HA_3.out | exact HA_3.out.alloc _ | exact (HA_3.out.alloc _).alloc _ | exact ((HA_3.out.alloc _).alloc _).alloc _ | exact HA_3.out.drew | exact (HA_3.out.drew).alloc _) LA.out hle).mono ?_
    rintro e w4 ⟨g4, rfl, hg4, hk4, hb4⟩
    have hB4 : Below w3.heap.size w3 w4 := Below.next (by go_grown) hb4
    have hT4 : Below w.heap.size w w4 := Below.next hT3 hB4
    have hz4 := hb4.size
    (try simp only [World.size_alloc, World.size_drew] at hz4)
    have bx_l4 : w.heap.size < w4.heap.size := Nat.lt_of_lt_of_le bx_l3 hB4.size
    have bx_0_4 : w4.cell? ⟨w.heap.size, 0, none⟩ = some (.slice A n c) := (hB4.cell (p := ⟨w.heap.size, 0, none⟩) bx_l3).trans bx_0_3
    have HA_4 := Lib.hid (HA_3.out.below hB4)
    clear bx_l3 bx_0_3 HA_3
    have RX_4 := Lib.hid (hk4.rd (n := n) (size := 3) (by rw [rowOf_length ptC_len, LA.out]))
    go_wp2_with fail
    refine (iStrokeArea _ n n xs _ (by first | exact RX_4.out | exact RX_4.out.alloc _ | exact (RX_4.out.alloc _).alloc _ | exact ((RX_4.out.alloc _).alloc _).alloc _ | exact RX_4.out.drew | exact (RX_4.out.drew).alloc _) LA.out hle).mono ?_
    rintro e w5 ⟨rfl, hb5⟩
    have hB5 : Below w4.heap.size w4 w5 := Below.next (by go_grown) hb5
    have hT5 : Below w.heap.size w w5 := Below.next hT4 hB5
    have hz5 := hb5.size
    (try simp only [World.size_alloc, World.size_drew] at hz5)
    have bx_l5 : w.heap.size < w5.heap.size := Nat.lt_of_lt_of_le bx_l4 hB5.size
    have bx_0_5 : w5.cell? ⟨w.heap.size, 0, none⟩ = some (.slice A n c) := (hB5.cell (p := ⟨w.heap.size, 0, none⟩) bx_l4).trans bx_0_4
    have bx0_l5 : w4.heap.size < w5.heap.size := by omega
    have bx0_0_5 : w5.cell? ⟨w4.heap.size, 0, none⟩ = some (.slice (some ⟨g4, 0, none⟩) n n) := (hb5.cell (p := ⟨w4.heap.size, 0, none⟩) (by (try simp only [World.size_alloc, World.size_drew]); omega)).trans (by go_simp)
    have HA_5 := Lib.hid (HA_4.out.below hB5)
    have RX_5 := Lib.hid (RX_4.out.below hB5)
    clear bx_l4 bx_0_4 HA_4 RX_4
    go_wp2_with fail
    refine wp_region_held_drew (S := (fun w' => (∀ kb ko, kb < w5.heap.size → w'.cell? ⟨kb, ko, none⟩ = w5.cell? ⟨kb, ko, none⟩) ∧ w5.heap.size ≤ w'.heap.size ∧ Below w5.heap.size w5 w')) (by kernel_rfl) ?_ (fun hHeld => ?_)
    · (try dsimp only); (first | exact SB.mk hkB | exact SB.mk ((Below.refl _ _).drew) | (refine SB.mk ?_; go_grown; done) | (go_split_ands; refine SB.mk (Below.drew ?_); assumption) | (go_split_ands; refine SB.mk ?_; go_grown; done))
    first | (refine take_on (i := 0) (v := ?_) rfl (by kernel_rfl) (by kernel_rfl) (by kernel_rfl) (fun _ _ _ h => h) rfl ?_ (by assumption) ?_; rotate_left; · (intro w' hSw; (try dsimp only at hSw); go_simp; (try with_reducible rfl))) | (refine take_off (i := 0) rfl (by kernel_rfl) (by kernel_rfl) (by kernel_rfl) (fun _ _ _ h => h) rfl (by assumption) ?_)
    (try simp only [Act.put, List.setIfInBounds_toArray, List.set_cons_zero, List.set_cons_succ])
    first | (refine take_on (i := 1) (v := ?_) rfl (by kernel_rfl) (by kernel_rfl) (by kernel_rfl) (fun _ _ _ h => h) rfl ?_ (by assumption) ?_; rotate_left; · (intro w' hSw; (try dsimp only at hSw); go_simp; (try with_reducible rfl))) | (refine take_off (i := 1) rfl (by kernel_rfl) (by kernel_rfl) (by kernel_rfl) (fun _ _ _ h => h) rfl (by assumption) ?_)
    (try simp only [Act.put, List.setIfInBounds_toArray, List.set_cons_zero, List.set_cons_succ])
    refine wpAnyH_ready (rs := [2]) (by kernel_rfl) (by simp) ?_
    refine AllReadyH.cons rfl (fun K hK => ?_) AllReadyH.nil
    rw [if_pos (by rfl)]
    go_simp
    go_at_call 22
    refine (toStroke_any A n c xs _ (by first | exact HA_5.out | exact HA_5.out.alloc _ | exact (HA_5.out.alloc _).alloc _ | exact ((HA_5.out.alloc _).alloc _).alloc _ | exact HA_5.out.drew | exact (HA_5.out.drew).alloc _) LA.out hle).mono ?_
    rintro e w6 ⟨g6, rfl, hg6, hk6, hb6⟩
    have hB6 : Below w5.heap.size w5 w6 := Below.next (by go_grown) hb6
    have hT6 : Below w.heap.size w w6 := Below.next hT5 hB6
    have hz6 := hb6.size
    (try simp only [World.size_alloc, World.size_drew] at hz6)
    have bx_l6 : w.heap.size < w6.heap.size := Nat.lt_of_lt_of_le bx_l5 hB6.size
    have bx_0_6 : w6.cell? ⟨w.heap.size, 0, none⟩ = some (.slice A n c) := (hB6.cell (p := ⟨w.heap.size, 0, none⟩) bx_l5).trans bx_0_5
    have bx0_l6 : w4.heap.size < w6.heap.size := Nat.lt_of_lt_of_le bx0_l5 hB6.size
    have bx0_0_6 : w6.cell? ⟨w4.heap.size, 0, none⟩ = some (.slice (some ⟨g4, 0, none⟩) n n) := (hB6.cell (p := ⟨w4.heap.size, 0, none⟩) bx0_l5).trans bx0_0_5
    have HA_6 := Lib.hid (HA_5.out.below hB6)
    have RX_6 := Lib.hid (RX_5.out.below hB6)
    clear bx_l5 bx_0_5 bx0_l5 bx0_0_5 HA_5 RX_5
    have RE_6 := Lib.hid (hk6.rd (n := n) (size := 3) (by rw [rowOf_length ptC_len, LA.out]))
    refine hK.out _ _ ?_ (fun hHeld2 => ?_)
    · (try dsimp only); have hQ : Below w5.heap.size w5 w6 := by exact hB6
      exact SB.mk hQ
    have hQ0 : Below w5.heap.size w5 w6 := hB6
    clear hK K hHeld; have hHeld := hHeld2; clear hHeld2; (try simp only [Act.put, List.setIfInBounds_toArray, List.set_cons_zero, List.set_cons_succ])
    refine wpAnyH_ready (rs := [3]) (by kernel_rfl) (by simp) ?_
    refine AllReadyH.cons rfl (fun K hK => ?_) AllReadyH.nil
    rw [if_pos (by rfl)]
    go_simp
    go_at_call 24
    refine (eqStroke_same _ _ n n n xs _ (by first | exact RX_6.out | exact RX_6.out.alloc _ | exact (RX_6.out.alloc _).alloc _ | exact ((RX_6.out.alloc _).alloc _).alloc _ | exact RX_6.out.drew | exact (RX_6.out.drew).alloc _) (by first | exact RE_6.out | exact RE_6.out.alloc _ | exact (RE_6.out.alloc _).alloc _ | exact ((RE_6.out.alloc _).alloc _).alloc _ | exact RE_6.out.drew | exact (RE_6.out.drew).alloc _) LA.out hle).mono ?_
    rintro e w7 ⟨rfl, hb7⟩
    have hB7 : Below w6.heap.size w6 w7 := Below.next (by go_grown) hb7
    have hT7 : Below w.heap.size w w7 := Below.next hT6 hB7
    have hz7 := hb7.size
    (try simp only [World.size_alloc, World.size_drew] at hz7)
    have bx_l7 : w.heap.size < w7.heap.size := Nat.lt_of_lt_of_le bx_l6 hB7.size
    have bx_0_7 : w7.cell? ⟨w.heap.size, 0, none⟩ = some (.slice A n c) := (hB7.cell (p := ⟨w.heap.size, 0, none⟩) bx_l6).trans bx_0_6
    have bx0_l7 : w4.heap.size < w7.heap.size := Nat.lt_of_lt_of_le bx0_l6 hB7.size
    have bx0_0_7 : w7.cell? ⟨w4.heap.size, 0, none⟩ = some (.slice (some ⟨g4, 0, none⟩) n n) := (hB7.cell (p := ⟨w4.heap.size, 0, none⟩) bx0_l6).trans bx0_0_6
    have HA_7 := Lib.hid (HA_6.out.below hB7)
    have RX_7 := Lib.hid (RX_6.out.below hB7)
    have RE_7 := Lib.hid (RE_6.out.below hB7)
    clear bx_l6 bx_0_6 bx0_l6 bx0_0_6 HA_6 RX_6 RE_6
    refine hK.out _ _ ?_ (fun hHeld2 => ?_)
    · (try dsimp only); have hQ : Below w5.heap.size w5 w7 := by exact Below.next hQ0 hB7
      exact SB.mk hQ
    have hQ0 : Below w5.heap.size w5 w7 := Below.next hQ0 hB7
    clear hK K hHeld; have hHeld := hHeld2; clear hHeld2; (try simp only [Act.put, List.setIfInBounds_toArray, List.set_cons_zero, List.set_cons_succ])
    first | (refine take_on (i := 4) (v := ?_) rfl (by kernel_rfl) (by kernel_rfl) (by kernel_rfl) (fun _ _ _ h => h) rfl ?_ (by assumption) ?_; rotate_left; · (intro w' hSw; (try dsimp only at hSw); go_simp; (try with_reducible rfl))) | (refine take_off (i := 4) rfl (by kernel_rfl) (by kernel_rfl) (by kernel_rfl) (fun _ _ _ h => h) rfl (by assumption) ?_)
    (try simp only [Act.put, List.setIfInBounds_toArray, List.set_cons_zero, List.set_cons_succ])
    refine wpAnyH_done (by kernel_rfl) ?_ _
    clear hHeld
    clear hQ0
    go_wp2_with fail
    go_ret
    exact ⟨rfl, by go_grown⟩
  · go_enter Try.func5, Try.ntmps5
    go_wp2_with fail
    refine (szStroke_no A n c 1048576 _ hn (by omega) hle).mono ?_
    rintro e w1 ⟨rfl, hb1⟩
    go_wp2_with fail
    go_ret
    exact ⟨rfl, Below.next (by go_grown) hb1⟩

theorem law_StrokeArea (s : St) {w : World} (hs : s.good w) (_ : World) :
    Calls Try.prog 5 #[.agg #[.slice s.A s.l.length s.c]] w (Yes w) :=
  StrokeArea_walk s.A _ _ _ hs.2.2 rfl (Nat.le_trans hs.1 hs.2.1)
end Go.Proofs.Ytcglcfjonicjgaa
