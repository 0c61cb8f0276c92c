/-
  The law of EncodeInk returns true: program and reference write the same bytes of an ink.
-/
import Derived.Test.YtigingjpdlfanaaDoorEncT
import Derived.Test.YtigingjpdlfanaaDoorInkTxS
import Derived.Test.YtigingjpdlfanaaDoorBaseC
namespace Go.Proofs.YtigingjpdlfanaaDoor
set_option linter.unusedSimpArgs false
set_option linter.unusedVariables false
set_option maxRecDepth 20000
open Go.RowKit
open Go.ChangeShapes Go.WideShapes Go.Deep Go.Joins

set_option maxHeartbeats 8000000 in
theorem EncodeInk_walk {w : World} (A : Option Addr) (n c : Nat) (S : List St) (ha : InkRd w A n S) (hn : n ≤ 9223372036854775807) (hcap : ∀ s ∈ S, s.l.length ≤ 9223372036854775807) :
    Calls Tryd.prog 5 #[.agg #[.slice A n c]] w (Yes w) := by
  have HA_0 := Lib.hid ha
  have LA := Lib.hid ha.len
  clear ha
  by_cases hle : n + sumL S n ≤ 1048576
  rotate_left
  · go_enter Tryd.func5, Tryd.ntmps5
    go_wp2_with fail
    refine (szInk_no A n c S 1048576 _ (by first | exact HA_0.out | exact HA_0.out.alloc _ | exact (HA_0.out.alloc _).alloc _ | exact ((HA_0.out.alloc _).alloc _).alloc _ | exact HA_0.out.drew | exact (HA_0.out.drew).alloc _) hn hcap (by omega) hle).mono ?_
    rintro e w1 ⟨rfl, hb1⟩
    have hB1 : Below w.heap.size w w1 := Below.next (by go_grown) hb1
    have hT1 : Below w.heap.size w w1 := hB1
    have hz1 := hb1.size
    (try simp only [World.size_alloc, World.size_drew] at hz1)
    have bx0_l1 : w.heap.size < w1.heap.size := by omega
    have bx0_0_1 : w1.cell? ⟨w.heap.size, 0, none⟩ = some (.slice A n c) := (hb1.cell (p := ⟨w.heap.size, 0, none⟩) (by (try simp only [World.size_alloc, World.size_drew]); omega)).trans (by go_simp)
    have HA_1 := Lib.hid (HA_0.out.below hB1)
    go_wp2_with fail
    go_ret
    exact ⟨rfl, by go_grown⟩
  · have hs := fits_each LA.out hle
    have hn2 : n ≤ 1048576 := by omega
    obtain ⟨r, hr⟩ : ∃ r, 1048576 - n - sumL S n = r := ⟨_, rfl⟩
    have HLE := Lib.hid hle
    go_enter Tryd.func5, Tryd.ntmps5
    go_wp2_with fail
    refine (szInk_ok A n c S 1048576 _ (by first | exact HA_0.out | exact HA_0.out.alloc _ | exact (HA_0.out.alloc _).alloc _ | exact ((HA_0.out.alloc _).alloc _).alloc _ | exact HA_0.out.drew | exact (HA_0.out.drew).alloc _) hn hcap (by omega) HLE.out).mono ?_
    rintro e w1 ⟨rfl, hb1⟩
    have hB1 : Below w.heap.size w w1 := Below.next (by go_grown) hb1
    have hT1 : Below w.heap.size w w1 := hB1
    have hz1 := hb1.size
    (try simp only [World.size_alloc, World.size_drew] at hz1)
    have bx0_l1 : w.heap.size < w1.heap.size := by omega
    have bx0_0_1 : w1.cell? ⟨w.heap.size, 0, none⟩ = some (.slice A n c) := (hb1.cell (p := ⟨w.heap.size, 0, none⟩) (by (try simp only [World.size_alloc, World.size_drew]); omega)).trans (by go_simp)
    have HA_1 := Lib.hid (HA_0.out.below hB1)
    rw [hr]
    go_wp2_with fail
    refine (toInk_any A n c S _ (by first | exact HA_1.out | exact HA_1.out.alloc _ | exact (HA_1.out.alloc _).alloc _ | exact ((HA_1.out.alloc _).alloc _).alloc _ | exact HA_1.out.drew | exact (HA_1.out.drew).alloc _) hs hn2).mono ?_
    rintro e w2 ⟨g2, T2, rfl, hp2, ho2, hb2⟩
    have hB2 : Below w1.heap.size w1 w2 := Below.next (by go_grown) hb2
    have hT2 : Below w.heap.size w w2 := Below.next hT1 hB2
    have hz2 := hb2.size
    (try simp only [World.size_alloc, World.size_drew] at hz2)
    have bx0_l2 : w.heap.size < w2.heap.size := Nat.lt_of_lt_of_le bx0_l1 hB2.size
    have bx0_0_2 : w2.cell? ⟨w.heap.size, 0, none⟩ = some (.slice A n c) := (hB2.cell (p := ⟨w.heap.size, 0, none⟩) bx0_l1).trans bx0_0_1
    have HA_2 := Lib.hid (HA_1.out.below hB2)
    clear bx0_l1 bx0_0_1 HA_1
    have RS_2 := Lib.hid (ho2.rd (len_of hp2 LA.out))
    have RS_s := each_of hp2 hs
    have RS_p := Lib.hid hp2
    clear ho2 hp2
    go_wp2_with fail
    refine (sEncodeInk_any _ n n T2 (ptsOf S) _ (by first | exact RS_2.out | exact RS_2.out.alloc _ | exact (RS_2.out.alloc _).alloc _ | exact ((RS_2.out.alloc _).alloc _).alloc _ | exact RS_2.out.drew | exact (RS_2.out.drew).alloc _) RS_p.out RS_s hn2).mono ?_
    rintro e w3 ⟨rfl, hb3⟩
    have hB3 : Below w2.heap.size w2 w3 := Below.next (by go_grown) hb3
    have hT3 : Below w.heap.size w w3 := Below.next hT2 hB3
    have hz3 := hb3.size
    (try simp only [World.size_alloc, World.size_drew] at hz3)
    have bx0_l3 : w.heap.size < w3.heap.size := Nat.lt_of_lt_of_le bx0_l2 hB3.size
    have bx0_0_3 : w3.cell? ⟨w.heap.size, 0, none⟩ = some (.slice A n c) := (hB3.cell (p := ⟨w.heap.size, 0, none⟩) bx0_l2).trans bx0_0_2
    have HA_3 := Lib.hid (HA_2.out.below hB3)
    have RS_3 := Lib.hid (RS_2.out.below hB3)
    clear bx0_l2 bx0_0_2 HA_2 RS_2
    go_wp2_with fail
    refine (toInk_any A n c S _ (by first | exact HA_3.out | exact HA_3.out.alloc _ | exact (HA_3.out.alloc _).alloc _ | exact ((HA_3.out.alloc _).alloc _).alloc _ | exact HA_3.out.drew | exact (HA_3.out.drew).alloc _) hs hn2).mono ?_
    rintro e w4 ⟨g4, T4, rfl, hp4, ho4, hb4⟩
    have hB4 : Below w3.heap.size w3 w4 := Below.next (by go_grown) hb4
    have hT4 : Below w.heap.size w w4 := Below.next hT3 hB4
    have hz4 := hb4.size
    (try simp only [World.size_alloc, World.size_drew] at hz4)
    have bx0_l4 : w.heap.size < w4.heap.size := Nat.lt_of_lt_of_le bx0_l3 hB4.size
    have bx0_0_4 : w4.cell? ⟨w.heap.size, 0, none⟩ = some (.slice A n c) := (hB4.cell (p := ⟨w.heap.size, 0, none⟩) bx0_l3).trans bx0_0_3
    have HA_4 := Lib.hid (HA_3.out.below hB4)
    clear bx0_l3 bx0_0_3 HA_3
    have RX_4 := Lib.hid (ho4.rd (len_of hp4 LA.out))
    have RX_s := each_of hp4 hs
    have RX_p := Lib.hid hp4
    clear ho4 hp4
    go_wp2_with fail
    refine (iEncodeInk_any _ n n T4 (ptsOf S) _ (by first | exact RX_4.out | exact RX_4.out.alloc _ | exact (RX_4.out.alloc _).alloc _ | exact ((RX_4.out.alloc _).alloc _).alloc _ | exact RX_4.out.drew | exact (RX_4.out.drew).alloc _) RX_p.out RX_s hn2).mono ?_
    rintro e w5 ⟨rfl, hb5⟩
    have hB5 : Below w4.heap.size w4 w5 := Below.next (by go_grown) hb5
    have hT5 : Below w.heap.size w w5 := Below.next hT4 hB5
    have hz5 := hb5.size
    (try simp only [World.size_alloc, World.size_drew] at hz5)
    have bx0_l5 : w.heap.size < w5.heap.size := Nat.lt_of_lt_of_le bx0_l4 hB5.size
    have bx0_0_5 : w5.cell? ⟨w.heap.size, 0, none⟩ = some (.slice A n c) := (hB5.cell (p := ⟨w.heap.size, 0, none⟩) bx0_l4).trans bx0_0_4
    have bxx_l5 : w4.heap.size < w5.heap.size := by omega
    have bxx_0_5 : w5.cell? ⟨w4.heap.size, 0, none⟩ = some (.slice (some ⟨g4, 0, none⟩) n n) := (hb5.cell (p := ⟨w4.heap.size, 0, none⟩) (by (try simp only [World.size_alloc, World.size_drew]); omega)).trans (by go_simp)
    have HA_5 := Lib.hid (HA_4.out.below hB5)
    have RX_5 := Lib.hid (RX_4.out.below hB5)
    clear bx0_l4 bx0_0_4 HA_4 RX_4
    go_wp2_with fail
    refine wp_region_held_drew (S := (fun w' => (∀ kb ko, kb < w5.heap.size → w'.cell? ⟨kb, ko, none⟩ = w5.cell? ⟨kb, ko, none⟩) ∧ w5.heap.size ≤ w'.heap.size ∧ Below w5.heap.size w5 w')) (by kernel_rfl) ?_ (fun hHeld => ?_)
    · (try dsimp only); (first | exact SB.mk hkB | exact SB.mk ((Below.refl _ _).drew) | (refine SB.mk ?_; go_grown; done) | (go_split_ands; refine SB.mk (Below.drew ?_); assumption) | (go_split_ands; refine SB.mk ?_; go_grown; done))
    first | (refine take_on (i := 0) (v := ?_) rfl (by kernel_rfl) (by kernel_rfl) (by kernel_rfl) (fun _ _ _ h => h) rfl ?_ (by assumption) ?_; rotate_left; · (intro w' hSw; (try dsimp only at hSw); go_simp; (try with_reducible rfl))) | (refine take_off (i := 0) rfl (by kernel_rfl) (by kernel_rfl) (by kernel_rfl) (fun _ _ _ h => h) rfl (by assumption) ?_)
    (try simp only [Act.put, List.setIfInBounds_toArray, List.set_cons_zero, List.set_cons_succ])
    first | (refine take_on (i := 1) (v := ?_) rfl (by kernel_rfl) (by kernel_rfl) (by kernel_rfl) (fun _ _ _ h => h) rfl ?_ (by assumption) ?_; rotate_left; · (intro w' hSw; (try dsimp only at hSw); go_simp; (try with_reducible rfl))) | (refine take_off (i := 1) rfl (by kernel_rfl) (by kernel_rfl) (by kernel_rfl) (fun _ _ _ h => h) rfl (by assumption) ?_)
    (try simp only [Act.put, List.setIfInBounds_toArray, List.set_cons_zero, List.set_cons_succ])
    refine wpAnyH_ready (rs := [2]) (by kernel_rfl) (by simp) ?_
    refine AllReadyH.cons rfl (fun K hK => ?_) AllReadyH.nil
    rw [if_pos (by rfl)]
    go_simp
    go_at_call 13
    refine (toInk_any A n c S _ (by first | exact HA_5.out | exact HA_5.out.alloc _ | exact (HA_5.out.alloc _).alloc _ | exact ((HA_5.out.alloc _).alloc _).alloc _ | exact HA_5.out.drew | exact (HA_5.out.drew).alloc _) hs hn2).mono ?_
    rintro e w6 ⟨g6, T6, rfl, hp6, ho6, hb6⟩
    have hB6 : Below w5.heap.size w5 w6 := Below.next (by go_grown) hb6
    have hT6 : Below w.heap.size w w6 := Below.next hT5 hB6
    have hz6 := hb6.size
    (try simp only [World.size_alloc, World.size_drew] at hz6)
    have bx0_l6 : w.heap.size < w6.heap.size := Nat.lt_of_lt_of_le bx0_l5 hB6.size
    have bx0_0_6 : w6.cell? ⟨w.heap.size, 0, none⟩ = some (.slice A n c) := (hB6.cell (p := ⟨w.heap.size, 0, none⟩) bx0_l5).trans bx0_0_5
    have bxx_l6 : w4.heap.size < w6.heap.size := Nat.lt_of_lt_of_le bxx_l5 hB6.size
    have bxx_0_6 : w6.cell? ⟨w4.heap.size, 0, none⟩ = some (.slice (some ⟨g4, 0, none⟩) n n) := (hB6.cell (p := ⟨w4.heap.size, 0, none⟩) bxx_l5).trans bxx_0_5
    have HA_6 := Lib.hid (HA_5.out.below hB6)
    have RX_6 := Lib.hid (RX_5.out.below hB6)
    clear bx0_l5 bx0_0_5 bxx_l5 bxx_0_5 HA_5 RX_5
    have RE_6 := Lib.hid (ho6.rd (len_of hp6 LA.out))
    have RE_s := each_of hp6 hs
    have RE_p := Lib.hid hp6
    clear ho6 hp6
    refine hK.out _ _ ?_ (fun hHeld2 => ?_)
    · (try dsimp only); exact SB.mk (Below.next (by go_grown) hb6)
    have hQ0 : Below w5.heap.size w5 w6 := Below.next (by go_grown) hb6
    clear hK K hHeld; have hHeld := hHeld2; clear hHeld2; (try simp only [Act.put, List.setIfInBounds_toArray, List.set_cons_zero, List.set_cons_succ])
    refine wpAnyH_ready (rs := [3]) (by kernel_rfl) (by simp) ?_
    refine AllReadyH.cons rfl (fun K hK => ?_) AllReadyH.nil
    rw [if_pos (by rfl)]
    go_simp
    go_at_call 15
    refine (eqInk_same _ _ n n n T4 T6 _ (by first | exact RX_6.out | exact RX_6.out.alloc _ | exact (RX_6.out.alloc _).alloc _ | exact ((RX_6.out.alloc _).alloc _).alloc _ | exact RX_6.out.drew | exact (RX_6.out.drew).alloc _) (by first | exact RE_6.out | exact RE_6.out.alloc _ | exact (RE_6.out.alloc _).alloc _ | exact ((RE_6.out.alloc _).alloc _).alloc _ | exact RE_6.out.drew | exact (RE_6.out.drew).alloc _) (RX_p.out.trans RE_p.out.symm) RX_s hn2).mono ?_
    rintro e w7 ⟨rfl, hb7⟩
    have hB7 : Below w6.heap.size w6 w7 := Below.next (by go_grown) hb7
    have hT7 : Below w.heap.size w w7 := Below.next hT6 hB7
    have hz7 := hb7.size
    (try simp only [World.size_alloc, World.size_drew] at hz7)
    have bx0_l7 : w.heap.size < w7.heap.size := Nat.lt_of_lt_of_le bx0_l6 hB7.size
    have bx0_0_7 : w7.cell? ⟨w.heap.size, 0, none⟩ = some (.slice A n c) := (hB7.cell (p := ⟨w.heap.size, 0, none⟩) bx0_l6).trans bx0_0_6
    have bxx_l7 : w4.heap.size < w7.heap.size := Nat.lt_of_lt_of_le bxx_l6 hB7.size
    have bxx_0_7 : w7.cell? ⟨w4.heap.size, 0, none⟩ = some (.slice (some ⟨g4, 0, none⟩) n n) := (hB7.cell (p := ⟨w4.heap.size, 0, none⟩) bxx_l6).trans bxx_0_6
    have HA_7 := Lib.hid (HA_6.out.below hB7)
    have RX_7 := Lib.hid (RX_6.out.below hB7)
    have RE_7 := Lib.hid (RE_6.out.below hB7)
    clear bx0_l6 bx0_0_6 bxx_l6 bxx_0_6 HA_6 RX_6 RE_6
    refine hK.out _ _ ?_ (fun hHeld2 => ?_)
    · (try dsimp only); exact SB.mk (Below.next hQ0 hB7)
    have hQ0 : Below w5.heap.size w5 w7 := Below.next hQ0 hB7
    clear hK K hHeld; have hHeld := hHeld2; clear hHeld2; (try simp only [Act.put, List.setIfInBounds_toArray, List.set_cons_zero, List.set_cons_succ])
    first | (refine take_on (i := 4) (v := ?_) rfl (by kernel_rfl) (by kernel_rfl) (by kernel_rfl) (fun _ _ _ h => h) rfl ?_ (by assumption) ?_; rotate_left; · (intro w' hSw; (try dsimp only at hSw); go_simp; (try with_reducible rfl))) | (refine take_off (i := 4) rfl (by kernel_rfl) (by kernel_rfl) (by kernel_rfl) (fun _ _ _ h => h) rfl (by assumption) ?_)
    (try simp only [Act.put, List.setIfInBounds_toArray, List.set_cons_zero, List.set_cons_succ])
    refine wpAnyH_done (by kernel_rfl) ?_ _
    clear hHeld
    clear hQ0
    go_wp2_with fail
    go_ret
    exact ⟨rfl, by go_grown⟩

theorem law_EncodeInk {W : World} (s : Ik) (hs : s.good W) (_ : World) (hL : laidMet Tryd.prog Rows.fnExactEncodeInkRow.laid W) (_ : W.ShapedOpen Tryd.prog) :
    Calls Tryd.prog 5 #[.agg #[.slice s.A s.l.length s.c]] W (Yes W) :=
  EncodeInk_walk s.A _ _ s.l hs.2.2.1 (Nat.le_trans hs.1 hs.2.1) (Ik.caps hs)
end Go.Proofs.YtigingjpdlfanaaDoor
