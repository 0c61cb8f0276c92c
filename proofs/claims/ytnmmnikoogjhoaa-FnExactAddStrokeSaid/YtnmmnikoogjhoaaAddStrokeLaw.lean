/-
  The law of AddStroke returns true: program and reference add alike, or refuse alike; the ink is the caller's own.
-/
import Derived.Test.YtnmmnikoogjhoaaAddStrokeS
import Derived.Test.YtnmmnikoogjhoaaInkLaw
namespace Go.Proofs.Ytnmmnikoogjhoaa
set_option linter.unusedSimpArgs false
set_option linter.unusedVariables false
set_option maxRecDepth 20000
open Go.RowKit
open Go.ChangeShapes Go.WideShapes Go.Deep Go.Joins

set_option maxHeartbeats 1600000 in
set_option maxRecDepth 100000 in
theorem AddStroke_walk {w : World} (A0 : Option Addr) (n0 c0 : Nat) (S0 : List St) (A1 : Option Addr) (n1 c1 : Nat) (xs1 : List Pt) (ha0 : InkRd w A0 n0 S0) (hn0 : n0 ≤ 9223372036854775807) (hcap0 : ∀ s ∈ S0, s.l.length ≤ 9223372036854775807) (ha1 : Rd w A1 n1 3 (rowOf ptC xs1)) (la1 : xs1.length = n1) (hn1 : n1 ≤ 9223372036854775807) :
    Calls Try.prog 9 #[.agg #[.slice A0 n0 c0], .agg #[.slice A1 n1 c1]] w (Yes w) := by
  have HA0_0 := Lib.hid ha0
  have LA0 := Lib.hid ha0.len
  clear ha0
  have HA1_0 := Lib.hid ha1
  have LA1 := Lib.hid la1
  clear ha1 la1
  obtain ⟨⟨L, code⟩, hR0⟩ : ∃ r, addR (ptsOf S0) xs1 = r := ⟨_, rfl⟩
  obtain ⟨N, hN0⟩ : ∃ N, L.length = N := ⟨_, rfl⟩
  have hsm0 : smallP L := by have h := addR_small (ptsOf S0) xs1; rw [hR0] at h; exact h
  have hN : N ≤ 1048576 := by have := hsm0.1; omega
  obtain ⟨mm, hmm0⟩ : ∃ mm, 1 + 3 * cntP L = mm := ⟨_, rfl⟩
  have HR := Lib.hid hR0
  have HN := Lib.hid hN0
  have HSM : Hid (smallP L) := hsm0
  have HMM := Lib.hid hmm0
  have hmb : mm ≤ 2881 := small_marks hsm0 hmm0
  clear hR0 hN0 hsm0 hmm0
  by_cases hle0 : n0 + sumL S0 n0 ≤ 1048576
  rotate_left
  · go_enter Try.func9, Try.ntmps9
    go_wp2_with fail
    refine (szInk_no A0 n0 c0 S0 (1048576) _ (by first | exact HA0_0.out | exact HA0_0.out.alloc _ | exact (HA0_0.out.alloc _).alloc _ | exact ((HA0_0.out.alloc _).alloc _).alloc _ | exact HA0_0.out.drew | exact (HA0_0.out.drew).alloc _) hn0 hcap0 (by omega) hle0).mono ?_
    rintro e w1 ⟨rfl, hb1⟩
    have hB1 : Below w.heap.size w w1 := Below.next (by go_grown) hb1
    have hT1 : Below w.heap.size w w1 := hB1
    have hz1 := hb1.size
    (try simp only [World.size_alloc, World.size_drew] at hz1)
    have bx0_l1 : w.heap.size < w1.heap.size := by omega
    have bx0_0_1 : w1.cell? ⟨w.heap.size, 0, none⟩ = some (.slice A0 n0 c0) := (hb1.cell (p := ⟨w.heap.size, 0, none⟩) (by (try simp only [World.size_alloc, World.size_drew]); omega)).trans (by go_simp)
    have bx1_l1 : w.heap.size + 1 < w1.heap.size := by omega
    have bx1_0_1 : w1.cell? ⟨w.heap.size + 1, 0, none⟩ = some (.slice A1 n1 c1) := (hb1.cell (p := ⟨w.heap.size + 1, 0, none⟩) (by (try simp only [World.size_alloc, World.size_drew]); omega)).trans (by go_simp)
    have HA0_1 := Lib.hid (HA0_0.out.below hT1)
    have HA1_1 := Lib.hid (HA1_0.out.below hT1)
    go_wp2_with fail
    go_ret
    exact ⟨rfl, by go_grown⟩
  have hs0 := fits_each LA0.out (show n0 + sumL S0 n0 ≤ 1048576 by omega)
  have hm0 : n0 ≤ 1048576 := by omega
  obtain ⟨r0, hr0⟩ : ∃ r, 1048576 - n0 - sumL S0 n0 = r := ⟨_, rfl⟩
  have hrb0 : r0 ≤ 1048576 := by omega
  have HLE0 := Lib.hid hle0
  by_cases hle1 : n1 ≤ r0
  rotate_left
  · go_enter Try.func9, Try.ntmps9
    go_wp2_with fail
    refine (szInk_ok A0 n0 c0 S0 (1048576) _ (by first | exact HA0_0.out | exact HA0_0.out.alloc _ | exact (HA0_0.out.alloc _).alloc _ | exact ((HA0_0.out.alloc _).alloc _).alloc _ | exact HA0_0.out.drew | exact (HA0_0.out.drew).alloc _) hn0 hcap0 (by omega) HLE0.out).mono ?_
    rintro e w1 ⟨rfl, hb1⟩
    have hB1 : Below w.heap.size w w1 := Below.next (by go_grown) hb1
    have hT1 : Below w.heap.size w w1 := hB1
    have hz1 := hb1.size
    (try simp only [World.size_alloc, World.size_drew] at hz1)
    have bx0_l1 : w.heap.size < w1.heap.size := by omega
    have bx0_0_1 : w1.cell? ⟨w.heap.size, 0, none⟩ = some (.slice A0 n0 c0) := (hb1.cell (p := ⟨w.heap.size, 0, none⟩) (by (try simp only [World.size_alloc, World.size_drew]); omega)).trans (by go_simp)
    have bx1_l1 : w.heap.size + 1 < w1.heap.size := by omega
    have bx1_0_1 : w1.cell? ⟨w.heap.size + 1, 0, none⟩ = some (.slice A1 n1 c1) := (hb1.cell (p := ⟨w.heap.size + 1, 0, none⟩) (by (try simp only [World.size_alloc, World.size_drew]); omega)).trans (by go_simp)
    have HA0_1 := Lib.hid (HA0_0.out.below hT1)
    have HA1_1 := Lib.hid (HA1_0.out.below hT1)
    rw [hr0]
    go_wp2_with fail
    refine (szStroke_no A1 n1 c1 (r0) _ hn1 (by omega) hle1).mono ?_
    rintro e w2 ⟨rfl, hb2⟩
    have hB2 : Below w1.heap.size w1 w2 := Below.next (by go_grown) hb2
    have hT2 : Below w.heap.size w w2 := Below.next hT1 hB2
    have hz2 := hb2.size
    (try simp only [World.size_alloc, World.size_drew] at hz2)
    have bx0_l2 : w.heap.size < w2.heap.size := Nat.lt_of_lt_of_le bx0_l1 hB2.size
    have bx0_0_2 : w2.cell? ⟨w.heap.size, 0, none⟩ = some (.slice A0 n0 c0) := (hB2.cell (p := ⟨w.heap.size, 0, none⟩) bx0_l1).trans bx0_0_1
    have bx1_l2 : w.heap.size + 1 < w2.heap.size := Nat.lt_of_lt_of_le bx1_l1 hB2.size
    have bx1_0_2 : w2.cell? ⟨w.heap.size + 1, 0, none⟩ = some (.slice A1 n1 c1) := (hB2.cell (p := ⟨w.heap.size + 1, 0, none⟩) bx1_l1).trans bx1_0_1
    clear bx0_l1 bx0_0_1 bx1_l1 bx1_0_1
    have HA0_2 := Lib.hid (HA0_0.out.below hT2)
    clear HA0_1
    have HA1_2 := Lib.hid (HA1_0.out.below hT2)
    clear HA1_1
    go_wp2_with fail
    go_ret
    exact ⟨rfl, by go_grown⟩
  have hm1 : n1 ≤ 1048576 := by omega
  go_enter Try.func9, Try.ntmps9
  go_wp2_with fail
  refine (szInk_ok A0 n0 c0 S0 (1048576) _ (by first | exact HA0_0.out | exact HA0_0.out.alloc _ | exact (HA0_0.out.alloc _).alloc _ | exact ((HA0_0.out.alloc _).alloc _).alloc _ | exact HA0_0.out.drew | exact (HA0_0.out.drew).alloc _) hn0 hcap0 (by omega) HLE0.out).mono ?_
  rintro e w1 ⟨rfl, hb1⟩
  have hB1 : Below w.heap.size w w1 := Below.next (by go_grown) hb1
  have hT1 : Below w.heap.size w w1 := hB1
  have hz1 := hb1.size
  (try simp only [World.size_alloc, World.size_drew] at hz1)
  have bx0_l1 : w.heap.size < w1.heap.size := by omega
  have bx0_0_1 : w1.cell? ⟨w.heap.size, 0, none⟩ = some (.slice A0 n0 c0) := (hb1.cell (p := ⟨w.heap.size, 0, none⟩) (by (try simp only [World.size_alloc, World.size_drew]); omega)).trans (by go_simp)
  have bx1_l1 : w.heap.size + 1 < w1.heap.size := by omega
  have bx1_0_1 : w1.cell? ⟨w.heap.size + 1, 0, none⟩ = some (.slice A1 n1 c1) := (hb1.cell (p := ⟨w.heap.size + 1, 0, none⟩) (by (try simp only [World.size_alloc, World.size_drew]); omega)).trans (by go_simp)
  have HA0_1 := Lib.hid (HA0_0.out.below hT1)
  have HA1_1 := Lib.hid (HA1_0.out.below hT1)
  rw [hr0]
  go_wp2_with fail
  refine (szStroke_ok A1 n1 c1 (r0) _ hn1 (by omega) hle1).mono ?_
  rintro e w2 ⟨rfl, hb2⟩
  have hB2 : Below w1.heap.size w1 w2 := Below.next (by go_grown) hb2
  have hT2 : Below w.heap.size w w2 := Below.next hT1 hB2
  have hz2 := hb2.size
  (try simp only [World.size_alloc, World.size_drew] at hz2)
  have bx0_l2 : w.heap.size < w2.heap.size := Nat.lt_of_lt_of_le bx0_l1 hB2.size
  have bx0_0_2 : w2.cell? ⟨w.heap.size, 0, none⟩ = some (.slice A0 n0 c0) := (hB2.cell (p := ⟨w.heap.size, 0, none⟩) bx0_l1).trans bx0_0_1
  have bx1_l2 : w.heap.size + 1 < w2.heap.size := Nat.lt_of_lt_of_le bx1_l1 hB2.size
  have bx1_0_2 : w2.cell? ⟨w.heap.size + 1, 0, none⟩ = some (.slice A1 n1 c1) := (hB2.cell (p := ⟨w.heap.size + 1, 0, none⟩) bx1_l1).trans bx1_0_1
  clear bx0_l1 bx0_0_1 bx1_l1 bx1_0_1
  have HA0_2 := Lib.hid (HA0_0.out.below hT2)
  clear HA0_1
  have HA1_2 := Lib.hid (HA1_0.out.below hT2)
  clear HA1_1
  go_upto_region 8 with fail
  go_cut [6, 7] (fun p q wx => ∃ (b : Nat) (A : Option Addr) (c : Nat) (T : List St) (lo hi : Nat), p = .pointer (some ⟨b, 0, none⟩) ∧ q = .int .i64 code ∧ wx.cell? ⟨b, 0, none⟩ = some (.slice A N c) ∧ b < wx.heap.size ∧ Hid (ptsOf T = L) ∧ Hid (InkOwn wx lo hi (.slice A N c) T) ∧ (b < lo ∨ hi ≤ b) ∧ w2.heap.size ≤ lo ∧ hi ≤ wx.heap.size ∧ w2.heap.size ≤ b ∧ Below w2.heap.size w2 wx)
  case first =>
    refine wp_region_held_drew (S := (fun w' => (∀ kb ko, kb < w2.heap.size → w'.cell? ⟨kb, ko, none⟩ = w2.cell? ⟨kb, ko, none⟩) ∧ w2.heap.size ≤ w'.heap.size ∧ Below w2.heap.size w2 w')) (by kernel_rfl) ?_ (fun hHeld => ?_)
    · (try dsimp only); exact SB.mk ((Below.refl _ _).drew)
    first | (refine take_on (i := 0) (v := ?_) rfl (by kernel_rfl) (by kernel_rfl) (by kernel_rfl) (fun _ _ _ h => h) rfl ?_ (by assumption) ?_; rotate_left; · (intro w' hSw; (try dsimp only at hSw); go_simp; (try with_reducible rfl))) | (refine take_off (i := 0) rfl (by kernel_rfl) (by kernel_rfl) (by kernel_rfl) (fun _ _ _ h => h) rfl (by assumption) ?_)
    (try simp only [Act.put, List.setIfInBounds_toArray, List.set_cons_zero, List.set_cons_succ])
    first | (refine take_on (i := 2) (v := ?_) rfl (by kernel_rfl) (by kernel_rfl) (by kernel_rfl) (fun _ _ _ h => h) rfl ?_ (by assumption) ?_; rotate_left; · (intro w' hSw; (try dsimp only at hSw); go_simp; (try with_reducible rfl))) | (refine take_off (i := 2) rfl (by kernel_rfl) (by kernel_rfl) (by kernel_rfl) (fun _ _ _ h => h) rfl (by assumption) ?_)
    (try simp only [Act.put, List.setIfInBounds_toArray, List.set_cons_zero, List.set_cons_succ])
    refine wpAnyH_ready (rs := [1, 8]) (by kernel_rfl) (by simp) ?_
    refine AllReadyH.cons rfl (fun K hK => ?_) (AllReadyH.cons rfl (fun K hK => ?_) (AllReadyH.nil))
    · rw [if_pos (by rfl)]
      go_simp
      go_at_call 13
      refine (toInk_any A0 n0 c0 S0 _ (HA0_2.out.below (hHeld.2.2)) hs0 hm0).mono ?_
      rintro e wa ⟨gwa, Twa, rfl, hpwa, howa, hbwa⟩
      have Rwa := Lib.hid (howa.rd (len_of hpwa LA0.out))
      have Rwa_p := Lib.hid hpwa
      have Rwa_s := each_of hpwa hs0
      have hQwa : Below w2.heap.size w2 wa := Below.next hHeld.2.2 hbwa
      have hzwa := hbwa.size
      (try simp only [World.size_alloc, World.size_drew] at hzwa)
      have hywa := hQwa.size
      (try simp only [World.size_alloc, World.size_drew] at hywa)
      refine hK.out _ _ ?_ (fun hHeld2 => ?_)
      · (try dsimp only); exact SB.mk hQwa
      clear hK K hHeld; have hHeld := hHeld2; clear hHeld2; (try simp only [Act.put, List.setIfInBounds_toArray, List.set_cons_zero, List.set_cons_succ])
      refine wpAnyH_ready (rs := [3, 8]) (by kernel_rfl) (by simp) ?_
      refine AllReadyH.cons rfl (fun K hK => ?_) (AllReadyH.cons rfl (fun K hK => ?_) (AllReadyH.nil))
      · rw [if_pos (by rfl)]
        go_simp
        go_at_call 31
        refine (toStroke_any A1 n1 c1 xs1 _ (HA1_2.out.below (hHeld.2.2)) LA1.out hm1).mono ?_
        rintro e wb ⟨gwb, rfl, hgwb, hkwb, hbwb⟩
        have Rwb := Lib.hid (hkwb.rd (n := n1) (size := 3) (by rw [rowOf_length ptC_len, LA1.out]))
        have Rwa := Lib.hid (Rwa.out.below hbwb)
        have hQwb : Below w2.heap.size w2 wb := Below.next hHeld.2.2 hbwb
        have hzwb := hbwb.size
        (try simp only [World.size_alloc, World.size_drew] at hzwb)
        have hywb := hQwb.size
        (try simp only [World.size_alloc, World.size_drew] at hywb)
        refine hK.out _ _ ?_ (fun hHeld2 => ?_)
        · (try dsimp only); exact SB.mk hQwb
        clear hK K hHeld; have hHeld := hHeld2; clear hHeld2; (try simp only [Act.put, List.setIfInBounds_toArray, List.set_cons_zero, List.set_cons_succ])
        refine wpAnyH_ready (rs := [4, 8]) (by kernel_rfl) (by simp) ?_
        refine AllReadyH.cons rfl (fun K hK => ?_) (AllReadyH.cons rfl (fun K hK => ?_) (AllReadyH.nil))
        · rw [if_pos (by rfl)]
          go_simp
          go_at_call 30
          refine (sAddStroke _ n0 n0 Twa _ n1 n1 xs1 N code (ptsOf S0) L _ Rwa.out Rwa_p.out Rwa_s hm0 Rwb.out LA1.out hm1 HR.out HN.out).mono ?_
          rintro e wd ⟨Awd, cwd, Twd, rfl, hpwd, howd, hbwd⟩
          have hQwd : Below w2.heap.size w2 wd := Below.next hHeld.2.2 hbwd
          have hzwd := hbwd.size
          (try simp only [World.size_alloc, World.size_drew] at hzwd)
          have hywd := hQwd.size
          (try simp only [World.size_alloc, World.size_drew] at hywd)
          refine hK.out _ _ ?_ (fun hHeld2 => ?_)
          · (try dsimp only); exact SB.mk hQwd
          clear hK K hHeld; have hHeld := hHeld2; clear hHeld2; (try simp only [Act.put, List.setIfInBounds_toArray, List.set_cons_zero, List.set_cons_succ])
          first | (refine take_on (i := 5) (v := ?_) rfl (by kernel_rfl) (by kernel_rfl) (by kernel_rfl) (fun _ _ _ h => h) rfl ?_ (by assumption) ?_; rotate_left; · (intro w' hSw; (try dsimp only at hSw); go_simp; (try with_reducible rfl))) | (refine take_off (i := 5) rfl (by kernel_rfl) (by kernel_rfl) (by kernel_rfl) (fun _ _ _ h => h) rfl (by assumption) ?_)
          (try simp only [Act.put, List.setIfInBounds_toArray, List.set_cons_zero, List.set_cons_succ])
          first | (refine take_on (i := 6) (v := ?_) rfl (by kernel_rfl) (by kernel_rfl) (by kernel_rfl) (fun _ _ _ h => h) rfl ?_ (by assumption) ?_; rotate_left; · (intro w' hSw; (try dsimp only at hSw); go_simp; (try with_reducible rfl))) | (refine take_off (i := 6) rfl (by kernel_rfl) (by kernel_rfl) (by kernel_rfl) (fun _ _ _ h => h) rfl (by assumption) ?_)
          (try simp only [Act.put, List.setIfInBounds_toArray, List.set_cons_zero, List.set_cons_succ])
          first | (refine take_on (i := 7) (v := ?_) rfl (by kernel_rfl) (by kernel_rfl) (by kernel_rfl) (fun _ _ _ h => h) rfl ?_ (by assumption) ?_; rotate_left; · (intro w' hSw; (try dsimp only at hSw); go_simp; (try with_reducible rfl))) | (refine take_off (i := 7) rfl (by kernel_rfl) (by kernel_rfl) (by kernel_rfl) (fun _ _ _ h => h) rfl (by assumption) ?_)
          (try simp only [Act.put, List.setIfInBounds_toArray, List.set_cons_zero, List.set_cons_succ])
          refine wpAnyH_ready (rs := [8]) (by kernel_rfl) (by simp) ?_
          refine AllReadyH.cons rfl (fun K hK => ?_) AllReadyH.nil
          rw [if_pos (by rfl)]
          go_simp
          refine hK.out _ _ ?_ (fun hHeld2 => ?_)
          · (try dsimp only); exact SB.mk (hHeld.2.2.alloc hHeld.2.1 _)
          clear hK K hHeld; have hHeld := hHeld2; clear hHeld2; (try simp only [Act.put, List.setIfInBounds_toArray, List.set_cons_zero, List.set_cons_succ])
          refine wpAnyH_ready (rs := [9]) (by kernel_rfl) (by simp) ?_
          refine AllReadyH.cons rfl (fun K hK => ?_) AllReadyH.nil
          rw [if_pos (by rfl)]
          go_simp
          refine hK.out _ _ ?_ (fun hHeld2 => ?_)
          · (try dsimp only); exact SB.mk (hQwd.alloc hQwd.size _)
          clear hK K hHeld; have hHeld := hHeld2; clear hHeld2; (try simp only [Act.put, List.setIfInBounds_toArray, List.set_cons_zero, List.set_cons_succ])
          first | (refine take_on (i := 10) (v := ?_) rfl (by kernel_rfl) (by kernel_rfl) (by kernel_rfl) (fun _ _ _ h => h) rfl ?_ (by assumption) ?_; rotate_left; · (intro w' hSw; (try dsimp only at hSw); go_simp; (try with_reducible rfl))) | (refine take_off (i := 10) rfl (by kernel_rfl) (by kernel_rfl) (by kernel_rfl) (fun _ _ _ h => h) rfl (by assumption) ?_)
          (try simp only [Act.put, List.setIfInBounds_toArray, List.set_cons_zero, List.set_cons_succ])
          refine wpAnyH_done (by kernel_rfl) ?_ _
          have hF := hHeld.2.2
          clear hHeld
          go_wp2_with fail
          go_meet
          refine ⟨_, Awd, cwd, Twd, _, _, rfl, rfl, by go_simp, by simp, hpwd, howd.alloc _, .inr (Nat.le_refl _), ?_, ?_, by omega, hF⟩
          all_goals (try simp only [World.size_alloc, World.size_drew])
          all_goals omega
        · rw [if_pos (by rfl)]
          go_simp
          refine hK.out _ _ ?_ (fun hHeld2 => ?_)
          · (try dsimp only); exact SB.mk (hHeld.2.2.alloc hHeld.2.1 _)
          clear hK K hHeld; have hHeld := hHeld2; clear hHeld2; (try simp only [Act.put, List.setIfInBounds_toArray, List.set_cons_zero, List.set_cons_succ])
          have Rwa := Lib.hid (Rwa.out.alloc (.cells #[.slice none 0 0] 29))
          have Rwb := Lib.hid (Rwb.out.alloc (.cells #[.slice none 0 0] 29))
          have hbk : Bk _ (wb.heap.size) 29 #[.slice none 0 0] := Bk.new wb _ _
          have hbge : w2.heap.size ≤ wb.heap.size := by omega
          refine wpAnyH_ready (rs := [4]) (by kernel_rfl) (by simp) ?_
          refine AllReadyH.cons rfl (fun K hK => ?_) (AllReadyH.nil)
          rw [if_pos (by rfl)]
          go_simp
          go_at_call 30
          refine (sAddStroke _ n0 n0 Twa _ n1 n1 xs1 N code (ptsOf S0) L _ Rwa.out Rwa_p.out Rwa_s hm0 Rwb.out LA1.out hm1 HR.out HN.out).mono ?_
          rintro e wd ⟨Awd, cwd, Twd, rfl, hpwd, howd, hbwd⟩
          have hQwd : Below w2.heap.size w2 wd := Below.next hHeld.2.2 hbwd
          have hzwd := hbwd.size
          (try simp only [World.size_alloc, World.size_drew] at hzwd)
          have hywd := hQwd.size
          (try simp only [World.size_alloc, World.size_drew] at hywd)
          have hbk := hbk.next hbwd
          refine hK.out _ _ ?_ (fun hHeld2 => ?_)
          · (try dsimp only); exact SB.mk hQwd
          clear hK K hHeld; have hHeld := hHeld2; clear hHeld2; (try simp only [Act.put, List.setIfInBounds_toArray, List.set_cons_zero, List.set_cons_succ])
          first | (refine take_on (i := 5) (v := ?_) rfl (by kernel_rfl) (by kernel_rfl) (by kernel_rfl) (fun _ _ _ h => h) rfl ?_ (by assumption) ?_; rotate_left; · (intro w' hSw; (try dsimp only at hSw); go_simp; (try with_reducible rfl))) | (refine take_off (i := 5) rfl (by kernel_rfl) (by kernel_rfl) (by kernel_rfl) (fun _ _ _ h => h) rfl (by assumption) ?_)
          (try simp only [Act.put, List.setIfInBounds_toArray, List.set_cons_zero, List.set_cons_succ])
          first | (refine take_on (i := 6) (v := ?_) rfl (by kernel_rfl) (by kernel_rfl) (by kernel_rfl) (fun _ _ _ h => h) rfl ?_ (by assumption) ?_; rotate_left; · (intro w' hSw; (try dsimp only at hSw); go_simp; (try with_reducible rfl))) | (refine take_off (i := 6) rfl (by kernel_rfl) (by kernel_rfl) (by kernel_rfl) (fun _ _ _ h => h) rfl (by assumption) ?_)
          (try simp only [Act.put, List.setIfInBounds_toArray, List.set_cons_zero, List.set_cons_succ])
          first | (refine take_on (i := 7) (v := ?_) rfl (by kernel_rfl) (by kernel_rfl) (by kernel_rfl) (fun _ _ _ h => h) rfl ?_ (by assumption) ?_; rotate_left; · (intro w' hSw; (try dsimp only at hSw); go_simp; (try with_reducible rfl))) | (refine take_off (i := 7) rfl (by kernel_rfl) (by kernel_rfl) (by kernel_rfl) (fun _ _ _ h => h) rfl (by assumption) ?_)
          (try simp only [Act.put, List.setIfInBounds_toArray, List.set_cons_zero, List.set_cons_succ])
          obtain ⟨ebk, fbk⟩ := bk1 hbk
          have lbk := hbk.lt
          refine wpAnyH_ready (rs := [9]) (by kernel_rfl) (by simp) ?_
          refine AllReadyH.cons rfl (fun K hK => ?_) AllReadyH.nil
          rw [if_pos (by rfl)]
          go_simp
          refine hK.out _ _ ?_ (fun hHeld2 => ?_)
          · (try dsimp only); exact SB.mk (hQwd.setCell (by (try simp only [World.size_alloc]); omega) _)
          clear hK K hHeld; have hHeld := hHeld2; clear hHeld2; (try simp only [Act.put, List.setIfInBounds_toArray, List.set_cons_zero, List.set_cons_succ])
          first | (refine take_on (i := 10) (v := ?_) rfl (by kernel_rfl) (by kernel_rfl) (by kernel_rfl) (fun _ _ _ h => h) rfl ?_ (by assumption) ?_; rotate_left; · (intro w' hSw; (try dsimp only at hSw); go_simp; (try with_reducible rfl))) | (refine take_off (i := 10) rfl (by kernel_rfl) (by kernel_rfl) (by kernel_rfl) (fun _ _ _ h => h) rfl (by assumption) ?_)
          (try simp only [Act.put, List.setIfInBounds_toArray, List.set_cons_zero, List.set_cons_succ])
          refine wpAnyH_done (by kernel_rfl) ?_ _
          have hF := hHeld.2.2
          clear hHeld
          go_wp2_with fail
          go_meet
          refine ⟨_, Awd, cwd, Twd, _, _, rfl, rfl, by go_simp, (bk1_put hbk).lt, hpwd, howd.keep fun k h1 h2 h3 => Below.heap_setCell _ _ _ _ (by have := hbge; (try simp only [World.size_alloc] at h1); simp only [ne_eq]; omega), ?_, ?_, ?_, by omega, hF⟩
          all_goals (try simp only [World.size_alloc, World.size_drew, World.setCell, Array.size_modify])
          all_goals omega
      · rw [if_pos (by rfl)]
        go_simp
        refine hK.out _ _ ?_ (fun hHeld2 => ?_)
        · (try dsimp only); exact SB.mk (hHeld.2.2.alloc hHeld.2.1 _)
        clear hK K hHeld; have hHeld := hHeld2; clear hHeld2; (try simp only [Act.put, List.setIfInBounds_toArray, List.set_cons_zero, List.set_cons_succ])
        have Rwa := Lib.hid (Rwa.out.alloc (.cells #[.slice none 0 0] 29))
        have hbk : Bk _ (wa.heap.size) 29 #[.slice none 0 0] := Bk.new wa _ _
        have hbge : w2.heap.size ≤ wa.heap.size := by omega
        refine wpAnyH_ready (rs := [3]) (by kernel_rfl) (by simp) ?_
        refine AllReadyH.cons rfl (fun K hK => ?_) (AllReadyH.nil)
        rw [if_pos (by rfl)]
        go_simp
        go_at_call 31
        refine (toStroke_any A1 n1 c1 xs1 _ (HA1_2.out.below (hHeld.2.2)) LA1.out hm1).mono ?_
        rintro e wb ⟨gwb, rfl, hgwb, hkwb, hbwb⟩
        have Rwb := Lib.hid (hkwb.rd (n := n1) (size := 3) (by rw [rowOf_length ptC_len, LA1.out]))
        have Rwa := Lib.hid (Rwa.out.below hbwb)
        have hQwb : Below w2.heap.size w2 wb := Below.next hHeld.2.2 hbwb
        have hzwb := hbwb.size
        (try simp only [World.size_alloc, World.size_drew] at hzwb)
        have hywb := hQwb.size
        (try simp only [World.size_alloc, World.size_drew] at hywb)
        have hbk := hbk.next hbwb
        refine hK.out _ _ ?_ (fun hHeld2 => ?_)
        · (try dsimp only); exact SB.mk hQwb
        clear hK K hHeld; have hHeld := hHeld2; clear hHeld2; (try simp only [Act.put, List.setIfInBounds_toArray, List.set_cons_zero, List.set_cons_succ])
        refine wpAnyH_ready (rs := [4]) (by kernel_rfl) (by simp) ?_
        refine AllReadyH.cons rfl (fun K hK => ?_) (AllReadyH.nil)
        rw [if_pos (by rfl)]
        go_simp
        go_at_call 30
        refine (sAddStroke _ n0 n0 Twa _ n1 n1 xs1 N code (ptsOf S0) L _ Rwa.out Rwa_p.out Rwa_s hm0 Rwb.out LA1.out hm1 HR.out HN.out).mono ?_
        rintro e wd ⟨Awd, cwd, Twd, rfl, hpwd, howd, hbwd⟩
        have hQwd : Below w2.heap.size w2 wd := Below.next hHeld.2.2 hbwd
        have hzwd := hbwd.size
        (try simp only [World.size_alloc, World.size_drew] at hzwd)
        have hywd := hQwd.size
        (try simp only [World.size_alloc, World.size_drew] at hywd)
        have hbk := hbk.next hbwd
        refine hK.out _ _ ?_ (fun hHeld2 => ?_)
        · (try dsimp only); exact SB.mk hQwd
        clear hK K hHeld; have hHeld := hHeld2; clear hHeld2; (try simp only [Act.put, List.setIfInBounds_toArray, List.set_cons_zero, List.set_cons_succ])
        first | (refine take_on (i := 5) (v := ?_) rfl (by kernel_rfl) (by kernel_rfl) (by kernel_rfl) (fun _ _ _ h => h) rfl ?_ (by assumption) ?_; rotate_left; · (intro w' hSw; (try dsimp only at hSw); go_simp; (try with_reducible rfl))) | (refine take_off (i := 5) rfl (by kernel_rfl) (by kernel_rfl) (by kernel_rfl) (fun _ _ _ h => h) rfl (by assumption) ?_)
        (try simp only [Act.put, List.setIfInBounds_toArray, List.set_cons_zero, List.set_cons_succ])
        first | (refine take_on (i := 6) (v := ?_) rfl (by kernel_rfl) (by kernel_rfl) (by kernel_rfl) (fun _ _ _ h => h) rfl ?_ (by assumption) ?_; rotate_left; · (intro w' hSw; (try dsimp only at hSw); go_simp; (try with_reducible rfl))) | (refine take_off (i := 6) rfl (by kernel_rfl) (by kernel_rfl) (by kernel_rfl) (fun _ _ _ h => h) rfl (by assumption) ?_)
        (try simp only [Act.put, List.setIfInBounds_toArray, List.set_cons_zero, List.set_cons_succ])
        first | (refine take_on (i := 7) (v := ?_) rfl (by kernel_rfl) (by kernel_rfl) (by kernel_rfl) (fun _ _ _ h => h) rfl ?_ (by assumption) ?_; rotate_left; · (intro w' hSw; (try dsimp only at hSw); go_simp; (try with_reducible rfl))) | (refine take_off (i := 7) rfl (by kernel_rfl) (by kernel_rfl) (by kernel_rfl) (fun _ _ _ h => h) rfl (by assumption) ?_)
        (try simp only [Act.put, List.setIfInBounds_toArray, List.set_cons_zero, List.set_cons_succ])
        obtain ⟨ebk, fbk⟩ := bk1 hbk
        have lbk := hbk.lt
        refine wpAnyH_ready (rs := [9]) (by kernel_rfl) (by simp) ?_
        refine AllReadyH.cons rfl (fun K hK => ?_) AllReadyH.nil
        rw [if_pos (by rfl)]
        go_simp
        refine hK.out _ _ ?_ (fun hHeld2 => ?_)
        · (try dsimp only); exact SB.mk (hQwd.setCell (by (try simp only [World.size_alloc]); omega) _)
        clear hK K hHeld; have hHeld := hHeld2; clear hHeld2; (try simp only [Act.put, List.setIfInBounds_toArray, List.set_cons_zero, List.set_cons_succ])
        first | (refine take_on (i := 10) (v := ?_) rfl (by kernel_rfl) (by kernel_rfl) (by kernel_rfl) (fun _ _ _ h => h) rfl ?_ (by assumption) ?_; rotate_left; · (intro w' hSw; (try dsimp only at hSw); go_simp; (try with_reducible rfl))) | (refine take_off (i := 10) rfl (by kernel_rfl) (by kernel_rfl) (by kernel_rfl) (fun _ _ _ h => h) rfl (by assumption) ?_)
        (try simp only [Act.put, List.setIfInBounds_toArray, List.set_cons_zero, List.set_cons_succ])
        refine wpAnyH_done (by kernel_rfl) ?_ _
        have hF := hHeld.2.2
        clear hHeld
        go_wp2_with fail
        go_meet
        refine ⟨_, Awd, cwd, Twd, _, _, rfl, rfl, by go_simp, (bk1_put hbk).lt, hpwd, howd.keep fun k h1 h2 h3 => Below.heap_setCell _ _ _ _ (by have := hbge; (try simp only [World.size_alloc] at h1); simp only [ne_eq]; omega), ?_, ?_, ?_, by omega, hF⟩
        all_goals (try simp only [World.size_alloc, World.size_drew, World.setCell, Array.size_modify])
        all_goals omega
    · rw [if_pos (by rfl)]
      go_simp
      refine hK.out _ _ ?_ (fun hHeld2 => ?_)
      · (try dsimp only); exact SB.mk (hHeld.2.2.alloc hHeld.2.1 _)
      clear hK K hHeld; have hHeld := hHeld2; clear hHeld2; (try simp only [Act.put, List.setIfInBounds_toArray, List.set_cons_zero, List.set_cons_succ])
      have hbk : Bk _ (w2.heap.size) 29 #[.slice none 0 0] := Bk.new w2.drew _ _
      have hbge : w2.heap.size ≤ w2.heap.size := by omega
      refine wpAnyH_ready (rs := [1]) (by kernel_rfl) (by simp) ?_
      refine AllReadyH.cons rfl (fun K hK => ?_) (AllReadyH.nil)
      rw [if_pos (by rfl)]
      go_simp
      go_at_call 13
      refine (toInk_any A0 n0 c0 S0 _ (HA0_2.out.below (hHeld.2.2)) hs0 hm0).mono ?_
      rintro e wa ⟨gwa, Twa, rfl, hpwa, howa, hbwa⟩
      have Rwa := Lib.hid (howa.rd (len_of hpwa LA0.out))
      have Rwa_p := Lib.hid hpwa
      have Rwa_s := each_of hpwa hs0
      have hQwa : Below w2.heap.size w2 wa := Below.next hHeld.2.2 hbwa
      have hzwa := hbwa.size
      (try simp only [World.size_alloc, World.size_drew] at hzwa)
      have hywa := hQwa.size
      (try simp only [World.size_alloc, World.size_drew] at hywa)
      have hbk := hbk.next hbwa
      refine hK.out _ _ ?_ (fun hHeld2 => ?_)
      · (try dsimp only); exact SB.mk hQwa
      clear hK K hHeld; have hHeld := hHeld2; clear hHeld2; (try simp only [Act.put, List.setIfInBounds_toArray, List.set_cons_zero, List.set_cons_succ])
      refine wpAnyH_ready (rs := [3]) (by kernel_rfl) (by simp) ?_
      refine AllReadyH.cons rfl (fun K hK => ?_) (AllReadyH.nil)
      rw [if_pos (by rfl)]
      go_simp
      go_at_call 31
      refine (toStroke_any A1 n1 c1 xs1 _ (HA1_2.out.below (hHeld.2.2)) LA1.out hm1).mono ?_
      rintro e wb ⟨gwb, rfl, hgwb, hkwb, hbwb⟩
      have Rwb := Lib.hid (hkwb.rd (n := n1) (size := 3) (by rw [rowOf_length ptC_len, LA1.out]))
      have Rwa := Lib.hid (Rwa.out.below hbwb)
      have hQwb : Below w2.heap.size w2 wb := Below.next hHeld.2.2 hbwb
      have hzwb := hbwb.size
      (try simp only [World.size_alloc, World.size_drew] at hzwb)
      have hywb := hQwb.size
      (try simp only [World.size_alloc, World.size_drew] at hywb)
      have hbk := hbk.next hbwb
      refine hK.out _ _ ?_ (fun hHeld2 => ?_)
      · (try dsimp only); exact SB.mk hQwb
      clear hK K hHeld; have hHeld := hHeld2; clear hHeld2; (try simp only [Act.put, List.setIfInBounds_toArray, List.set_cons_zero, List.set_cons_succ])
      refine wpAnyH_ready (rs := [4]) (by kernel_rfl) (by simp) ?_
      refine AllReadyH.cons rfl (fun K hK => ?_) (AllReadyH.nil)
      rw [if_pos (by rfl)]
      go_simp
      go_at_call 30
      refine (sAddStroke _ n0 n0 Twa _ n1 n1 xs1 N code (ptsOf S0) L _ Rwa.out Rwa_p.out Rwa_s hm0 Rwb.out LA1.out hm1 HR.out HN.out).mono ?_
      rintro e wd ⟨Awd, cwd, Twd, rfl, hpwd, howd, hbwd⟩
      have hQwd : Below w2.heap.size w2 wd := Below.next hHeld.2.2 hbwd
      have hzwd := hbwd.size
      (try simp only [World.size_alloc, World.size_drew] at hzwd)
      have hywd := hQwd.size
      (try simp only [World.size_alloc, World.size_drew] at hywd)
      have hbk := hbk.next hbwd
      refine hK.out _ _ ?_ (fun hHeld2 => ?_)
      · (try dsimp only); exact SB.mk hQwd
      clear hK K hHeld; have hHeld := hHeld2; clear hHeld2; (try simp only [Act.put, List.setIfInBounds_toArray, List.set_cons_zero, List.set_cons_succ])
      first | (refine take_on (i := 5) (v := ?_) rfl (by kernel_rfl) (by kernel_rfl) (by kernel_rfl) (fun _ _ _ h => h) rfl ?_ (by assumption) ?_; rotate_left; · (intro w' hSw; (try dsimp only at hSw); go_simp; (try with_reducible rfl))) | (refine take_off (i := 5) rfl (by kernel_rfl) (by kernel_rfl) (by kernel_rfl) (fun _ _ _ h => h) rfl (by assumption) ?_)
      (try simp only [Act.put, List.setIfInBounds_toArray, List.set_cons_zero, List.set_cons_succ])
      first | (refine take_on (i := 6) (v := ?_) rfl (by kernel_rfl) (by kernel_rfl) (by kernel_rfl) (fun _ _ _ h => h) rfl ?_ (by assumption) ?_; rotate_left; · (intro w' hSw; (try dsimp only at hSw); go_simp; (try with_reducible rfl))) | (refine take_off (i := 6) rfl (by kernel_rfl) (by kernel_rfl) (by kernel_rfl) (fun _ _ _ h => h) rfl (by assumption) ?_)
      (try simp only [Act.put, List.setIfInBounds_toArray, List.set_cons_zero, List.set_cons_succ])
      first | (refine take_on (i := 7) (v := ?_) rfl (by kernel_rfl) (by kernel_rfl) (by kernel_rfl) (fun _ _ _ h => h) rfl ?_ (by assumption) ?_; rotate_left; · (intro w' hSw; (try dsimp only at hSw); go_simp; (try with_reducible rfl))) | (refine take_off (i := 7) rfl (by kernel_rfl) (by kernel_rfl) (by kernel_rfl) (fun _ _ _ h => h) rfl (by assumption) ?_)
      (try simp only [Act.put, List.setIfInBounds_toArray, List.set_cons_zero, List.set_cons_succ])
      obtain ⟨ebk, fbk⟩ := bk1 hbk
      have lbk := hbk.lt
      refine wpAnyH_ready (rs := [9]) (by kernel_rfl) (by simp) ?_
      refine AllReadyH.cons rfl (fun K hK => ?_) AllReadyH.nil
      rw [if_pos (by rfl)]
      go_simp
      refine hK.out _ _ ?_ (fun hHeld2 => ?_)
      · (try dsimp only); exact SB.mk (hQwd.setCell (by (try simp only [World.size_alloc]); omega) _)
      clear hK K hHeld; have hHeld := hHeld2; clear hHeld2; (try simp only [Act.put, List.setIfInBounds_toArray, List.set_cons_zero, List.set_cons_succ])
      first | (refine take_on (i := 10) (v := ?_) rfl (by kernel_rfl) (by kernel_rfl) (by kernel_rfl) (fun _ _ _ h => h) rfl ?_ (by assumption) ?_; rotate_left; · (intro w' hSw; (try dsimp only at hSw); go_simp; (try with_reducible rfl))) | (refine take_off (i := 10) rfl (by kernel_rfl) (by kernel_rfl) (by kernel_rfl) (fun _ _ _ h => h) rfl (by assumption) ?_)
      (try simp only [Act.put, List.setIfInBounds_toArray, List.set_cons_zero, List.set_cons_succ])
      refine wpAnyH_done (by kernel_rfl) ?_ _
      have hF := hHeld.2.2
      clear hHeld
      go_wp2_with fail
      go_meet
      refine ⟨_, Awd, cwd, Twd, _, _, rfl, rfl, by go_simp, (bk1_put hbk).lt, hpwd, howd.keep fun k h1 h2 h3 => Below.heap_setCell _ _ _ _ (by have := hbge; (try simp only [World.size_alloc] at h1); simp only [ne_eq]; omega), ?_, ?_, ?_, by omega, hF⟩
      all_goals (try simp only [World.size_alloc, World.size_drew, World.setCell, Array.size_modify])
      all_goals omega
  case rest =>
    obtain ⟨w3, rfl⟩ : ∃ x, x = wc := ⟨wc, rfl⟩
    obtain ⟨b3, A3, c3, T3, lo3, hi3, rfl, rfl, hcb3, hbl3, hp3, ho3, hbd3, hlo3, hhi3, hbg3, hb3⟩ := hcut
    have hB3 : Below w2.heap.size w2 w3 := Below.next (by go_grown) hb3
    have hT3 : Below w.heap.size w w3 := Below.next hT2 hB3
    have hz3 := hb3.size
    (try simp only [World.size_alloc, World.size_drew] at hz3)
    have bx0_l3 : w.heap.size < w3.heap.size := Nat.lt_of_lt_of_le bx0_l2 hB3.size
    have bx0_0_3 : w3.cell? ⟨w.heap.size, 0, none⟩ = some (.slice A0 n0 c0) := (hB3.cell (p := ⟨w.heap.size, 0, none⟩) bx0_l2).trans bx0_0_2
    have bx1_l3 : w.heap.size + 1 < w3.heap.size := Nat.lt_of_lt_of_le bx1_l2 hB3.size
    have bx1_0_3 : w3.cell? ⟨w.heap.size + 1, 0, none⟩ = some (.slice A1 n1 c1) := (hB3.cell (p := ⟨w.heap.size + 1, 0, none⟩) bx1_l2).trans bx1_0_2
    clear bx0_l2 bx0_0_2 bx1_l2 bx1_0_2
    have HA0_3 := Lib.hid (HA0_0.out.below hT3)
    clear HA0_2
    have HA1_3 := Lib.hid (HA1_0.out.below hT3)
    clear HA1_2
    have W0_3 := ho3
    clear ho3
    have W0_p := hp3
    have W0_l := Lib.hid (small_len hp3.out HN.out)
    have W0_s := small_big HSM.out hp3.out
    clear hp3
    have bW0_l3 := hbl3
    have bW0_0_3 := hcb3
    go_wp2_with fail
    refine (toInk_any A0 n0 c0 S0 _ (by first | exact HA0_3.out | exact HA0_3.out.alloc _ | exact (HA0_3.out.alloc _).alloc _ | exact ((HA0_3.out.alloc _).alloc _).alloc _ | exact HA0_3.out.drew | exact (HA0_3.out.drew).alloc _) hs0 hm0).mono ?_
    rintro e w4 ⟨g4, T4, rfl, hp4, ho4, hb4⟩
    have hB4 : Below w3.heap.size w3 w4 := Below.next (by go_grown) hb4
    have hT4 : Below w.heap.size w w4 := Below.next hT3 hB4
    have hz4 := hb4.size
    (try simp only [World.size_alloc, World.size_drew] at hz4)
    have bx0_l4 : w.heap.size < w4.heap.size := Nat.lt_of_lt_of_le bx0_l3 hB4.size
    have bx0_0_4 : w4.cell? ⟨w.heap.size, 0, none⟩ = some (.slice A0 n0 c0) := (hB4.cell (p := ⟨w.heap.size, 0, none⟩) bx0_l3).trans bx0_0_3
    have bx1_l4 : w.heap.size + 1 < w4.heap.size := Nat.lt_of_lt_of_le bx1_l3 hB4.size
    have bx1_0_4 : w4.cell? ⟨w.heap.size + 1, 0, none⟩ = some (.slice A1 n1 c1) := (hB4.cell (p := ⟨w.heap.size + 1, 0, none⟩) bx1_l3).trans bx1_0_3
    have bW0_l4 : b3 < w4.heap.size := Nat.lt_of_lt_of_le bW0_l3 hB4.size
    have bW0_0_4 : w4.cell? ⟨b3, 0, none⟩ = some (.slice A3 N c3) := (hB4.cell (p := ⟨b3, 0, none⟩) bW0_l3).trans bW0_0_3
    clear bx0_l3 bx0_0_3 bx1_l3 bx1_0_3 bW0_l3 bW0_0_3
    have W0_4 := Lib.hid (W0_3.out.next hB4)
    clear W0_3
    have HA0_4 := Lib.hid (HA0_0.out.below hT4)
    clear HA0_3
    have HA1_4 := Lib.hid (HA1_0.out.below hT4)
    clear HA1_3
    have X0_4 : Hid (InkOwn w4 (w3.heap.size) (w4.heap.size) (.slice (some ⟨g4, 0, none⟩) n0 n0) T4) := by have h := ho4; (try simp only [World.size_alloc, World.size_drew] at h); exact h
    clear ho4
    have X0_l := Lib.hid (len_of hp4 LA0.out)
    have X0_p := Lib.hid hp4
    have X0_s := each_of hp4 hs0
    clear hp4
    go_wp2_with fail
    refine (toStroke_any A1 n1 c1 xs1 _ (by first | exact HA1_4.out | exact HA1_4.out.alloc _ | exact (HA1_4.out.alloc _).alloc _ | exact ((HA1_4.out.alloc _).alloc _).alloc _ | exact HA1_4.out.drew | exact (HA1_4.out.drew).alloc _) LA1.out hm1).mono ?_
    rintro e w5 ⟨g5, rfl, hg5, hk5, hb5⟩
    have hB5 : Below w4.heap.size w4 w5 := Below.next (by go_grown) hb5
    have hT5 : Below w.heap.size w w5 := Below.next hT4 hB5
    have hz5 := hb5.size
    (try simp only [World.size_alloc, World.size_drew] at hz5)
    have bx0_l5 : w.heap.size < w5.heap.size := Nat.lt_of_lt_of_le bx0_l4 hB5.size
    have bx0_0_5 : w5.cell? ⟨w.heap.size, 0, none⟩ = some (.slice A0 n0 c0) := (hB5.cell (p := ⟨w.heap.size, 0, none⟩) bx0_l4).trans bx0_0_4
    have bx1_l5 : w.heap.size + 1 < w5.heap.size := Nat.lt_of_lt_of_le bx1_l4 hB5.size
    have bx1_0_5 : w5.cell? ⟨w.heap.size + 1, 0, none⟩ = some (.slice A1 n1 c1) := (hB5.cell (p := ⟨w.heap.size + 1, 0, none⟩) bx1_l4).trans bx1_0_4
    have bW0_l5 : b3 < w5.heap.size := Nat.lt_of_lt_of_le bW0_l4 hB5.size
    have bW0_0_5 : w5.cell? ⟨b3, 0, none⟩ = some (.slice A3 N c3) := (hB5.cell (p := ⟨b3, 0, none⟩) bW0_l4).trans bW0_0_4
    have bX0_l5 : w4.heap.size < w5.heap.size := by omega
    have bX0_0_5 : w5.cell? ⟨w4.heap.size, 0, none⟩ = some (.slice (some ⟨g4, 0, none⟩) n0 n0) := (hb5.cell (p := ⟨w4.heap.size, 0, none⟩) (by (try simp only [World.size_alloc, World.size_drew]); omega)).trans (by go_simp)
    clear bx0_l4 bx0_0_4 bx1_l4 bx1_0_4 bW0_l4 bW0_0_4
    have W0_5 := Lib.hid (W0_4.out.next hB5)
    have X0_5 := Lib.hid (X0_4.out.next hB5)
    clear W0_4 X0_4
    have HA0_5 := Lib.hid (HA0_0.out.below hT5)
    clear HA0_4
    have HA1_5 := Lib.hid (HA1_0.out.below hT5)
    clear HA1_4
    have X1_5 : Hid (Own ptC 72 3 w5 (w4.heap.size + 1) (.slice (some ⟨g5, 0, none⟩) n1 n1) xs1) := by have h := (show Own ptC 72 3 w5 _ (.slice (some ⟨g5, 0, none⟩) n1 n1) xs1 from by have ho := Own.of_bk hk5 ptC_len (by rw [LA1.out]; unfold maxLen; omega) hg5; rw [LA1.out] at ho; exact ho); (try simp only [World.size_alloc, World.size_drew] at h); exact h
    have HI_X1 : Hid (∀ k, Value.ownBlock (.slice (some ⟨g5, 0, none⟩) n1 n1) = some k → w4.heap.size + 1 ≤ k ∧ k < w5.heap.size) := X1_5.out.lt
    clear hk5
    go_wp2_with fail
    refine (iAddStroke _ n0 n0 T4 _ n1 n1 xs1 N code (ptsOf S0) L _ (by first | exact (X0_5.out.rd X0_l.out) | exact (X0_5.out.rd X0_l.out).alloc _ | exact ((X0_5.out.rd X0_l.out).alloc _).alloc _ | exact (((X0_5.out.rd X0_l.out).alloc _).alloc _).alloc _ | exact ((((X0_5.out.rd X0_l.out).alloc _).alloc _).alloc _).alloc _ | exact (X0_5.out.rd X0_l.out).drew | exact ((X0_5.out.rd X0_l.out).drew).alloc _) X0_p.out X0_s hm0 (by first | exact (X1_5.out.rdS LA1.out) | exact (X1_5.out.rdS LA1.out).alloc _ | exact ((X1_5.out.rdS LA1.out).alloc _).alloc _ | exact (((X1_5.out.rdS LA1.out).alloc _).alloc _).alloc _ | exact ((((X1_5.out.rdS LA1.out).alloc _).alloc _).alloc _).alloc _ | exact (X1_5.out.rdS LA1.out).drew | exact ((X1_5.out.rdS LA1.out).drew).alloc _) LA1.out hm1 HR.out HN.out).mono ?_
    rintro e w6 ⟨A6, c6, T6, rfl, hp6, ho6, hb6⟩
    have hB6 : Below w5.heap.size w5 w6 := Below.next (by go_grown) hb6
    have hT6 : Below w.heap.size w w6 := Below.next hT5 hB6
    have hz6 := hb6.size
    (try simp only [World.size_alloc, World.size_drew] at hz6)
    have bx0_l6 : w.heap.size < w6.heap.size := Nat.lt_of_lt_of_le bx0_l5 hB6.size
    have bx0_0_6 : w6.cell? ⟨w.heap.size, 0, none⟩ = some (.slice A0 n0 c0) := (hB6.cell (p := ⟨w.heap.size, 0, none⟩) bx0_l5).trans bx0_0_5
    have bx1_l6 : w.heap.size + 1 < w6.heap.size := Nat.lt_of_lt_of_le bx1_l5 hB6.size
    have bx1_0_6 : w6.cell? ⟨w.heap.size + 1, 0, none⟩ = some (.slice A1 n1 c1) := (hB6.cell (p := ⟨w.heap.size + 1, 0, none⟩) bx1_l5).trans bx1_0_5
    have bW0_l6 : b3 < w6.heap.size := Nat.lt_of_lt_of_le bW0_l5 hB6.size
    have bW0_0_6 : w6.cell? ⟨b3, 0, none⟩ = some (.slice A3 N c3) := (hB6.cell (p := ⟨b3, 0, none⟩) bW0_l5).trans bW0_0_5
    have bX0_l6 : w4.heap.size < w6.heap.size := Nat.lt_of_lt_of_le bX0_l5 hB6.size
    have bX0_0_6 : w6.cell? ⟨w4.heap.size, 0, none⟩ = some (.slice (some ⟨g4, 0, none⟩) n0 n0) := (hB6.cell (p := ⟨w4.heap.size, 0, none⟩) bX0_l5).trans bX0_0_5
    have bX1_l6 : w5.heap.size < w6.heap.size := by omega
    have bX1_0_6 : w6.cell? ⟨w5.heap.size, 0, none⟩ = some (.slice (some ⟨g5, 0, none⟩) n1 n1) := (hb6.cell (p := ⟨w5.heap.size, 0, none⟩) (by (try simp only [World.size_alloc, World.size_drew]); omega)).trans (by go_simp)
    clear bx0_l5 bx0_0_5 bx1_l5 bx1_0_5 bW0_l5 bW0_0_5 bX0_l5 bX0_0_5
    have W0_6 := Lib.hid (W0_5.out.next hB6)
    have X0_6 := Lib.hid (X0_5.out.next hB6)
    have X1_6 := Lib.hid (X1_5.out.next hB6)
    clear W0_5 X0_5 X1_5
    have HA0_6 := Lib.hid (HA0_0.out.below hT6)
    clear HA0_5
    have HA1_6 := Lib.hid (HA1_0.out.below hT6)
    clear HA1_5
    have G0_6 : Hid (InkOwn w6 (w5.heap.size + 1) (w6.heap.size) (.slice A6 N c6) T6) := by have h := ho6; (try simp only [World.size_alloc, World.size_drew] at h); exact h
    clear ho6
    have G0_p := Lib.hid hp6
    have G0_l := Lib.hid (small_len hp6 HN.out)
    have G0_s := small_big HSM.out hp6
    clear hp6
    go_wp2_with fail
    refine (eqInk_same _ _ N _ _ T6 T3 _ (by first | exact (G0_6.out.rd G0_l.out) | exact (G0_6.out.rd G0_l.out).alloc _ | exact ((G0_6.out.rd G0_l.out).alloc _).alloc _ | exact (((G0_6.out.rd G0_l.out).alloc _).alloc _).alloc _ | exact ((((G0_6.out.rd G0_l.out).alloc _).alloc _).alloc _).alloc _ | exact (G0_6.out.rd G0_l.out).drew | exact ((G0_6.out.rd G0_l.out).drew).alloc _) (by first | exact (W0_6.out.rd W0_l.out) | exact (W0_6.out.rd W0_l.out).alloc _ | exact ((W0_6.out.rd W0_l.out).alloc _).alloc _ | exact (((W0_6.out.rd W0_l.out).alloc _).alloc _).alloc _ | exact ((((W0_6.out.rd W0_l.out).alloc _).alloc _).alloc _).alloc _ | exact (W0_6.out.rd W0_l.out).drew | exact ((W0_6.out.rd W0_l.out).drew).alloc _) (G0_p.out.trans W0_p.out.symm) G0_s hN).mono ?_
    rintro e w7 ⟨rfl, hb7⟩
    have hB7 : Below w6.heap.size w6 w7 := Below.next (by go_grown) hb7
    have hT7 : Below w.heap.size w w7 := Below.next hT6 hB7
    have hz7 := hb7.size
    (try simp only [World.size_alloc, World.size_drew] at hz7)
    have bx0_l7 : w.heap.size < w7.heap.size := Nat.lt_of_lt_of_le bx0_l6 hB7.size
    have bx0_0_7 : w7.cell? ⟨w.heap.size, 0, none⟩ = some (.slice A0 n0 c0) := (hB7.cell (p := ⟨w.heap.size, 0, none⟩) bx0_l6).trans bx0_0_6
    have bx1_l7 : w.heap.size + 1 < w7.heap.size := Nat.lt_of_lt_of_le bx1_l6 hB7.size
    have bx1_0_7 : w7.cell? ⟨w.heap.size + 1, 0, none⟩ = some (.slice A1 n1 c1) := (hB7.cell (p := ⟨w.heap.size + 1, 0, none⟩) bx1_l6).trans bx1_0_6
    have bW0_l7 : b3 < w7.heap.size := Nat.lt_of_lt_of_le bW0_l6 hB7.size
    have bW0_0_7 : w7.cell? ⟨b3, 0, none⟩ = some (.slice A3 N c3) := (hB7.cell (p := ⟨b3, 0, none⟩) bW0_l6).trans bW0_0_6
    have bX0_l7 : w4.heap.size < w7.heap.size := Nat.lt_of_lt_of_le bX0_l6 hB7.size
    have bX0_0_7 : w7.cell? ⟨w4.heap.size, 0, none⟩ = some (.slice (some ⟨g4, 0, none⟩) n0 n0) := (hB7.cell (p := ⟨w4.heap.size, 0, none⟩) bX0_l6).trans bX0_0_6
    have bX1_l7 : w5.heap.size < w7.heap.size := Nat.lt_of_lt_of_le bX1_l6 hB7.size
    have bX1_0_7 : w7.cell? ⟨w5.heap.size, 0, none⟩ = some (.slice (some ⟨g5, 0, none⟩) n1 n1) := (hB7.cell (p := ⟨w5.heap.size, 0, none⟩) bX1_l6).trans bX1_0_6
    have bG0_l7 : w6.heap.size < w7.heap.size := by omega
    have bG0_0_7 : w7.cell? ⟨w6.heap.size, 0, none⟩ = some (.slice A6 N c6) := (hb7.cell (p := ⟨w6.heap.size, 0, none⟩) (by (try simp only [World.size_alloc, World.size_drew]); omega)).trans (by go_simp)
    clear bx0_l6 bx0_0_6 bx1_l6 bx1_0_6 bW0_l6 bW0_0_6 bX0_l6 bX0_0_6 bX1_l6 bX1_0_6
    have W0_7 := Lib.hid (W0_6.out.next hB7)
    have X0_7 := Lib.hid (X0_6.out.next hB7)
    have G0_7 := Lib.hid (G0_6.out.next hB7)
    have X1_7 := Lib.hid (X1_6.out.next hB7)
    clear W0_6 X0_6 G0_6 X1_6
    have HA0_7 := Lib.hid (HA0_0.out.below hT7)
    clear HA0_6
    have HA1_7 := Lib.hid (HA1_0.out.below hT7)
    clear HA1_6
    go_wp2_with fail
    refine wp_region_held_drew (S := (fun w' => (∀ kb ko, kb < w7.heap.size → w'.cell? ⟨kb, ko, none⟩ = w7.cell? ⟨kb, ko, none⟩) ∧ w7.heap.size ≤ w'.heap.size ∧ Below w7.heap.size w7 w')) (by kernel_rfl) ?_ (fun hHeld => ?_)
    · (try dsimp only); (first | exact SB.mk hkB | exact SB.mk ((Below.refl _ _).drew) | (refine SB.mk ?_; go_grown; done) | (go_split_ands; refine SB.mk (Below.drew ?_); assumption) | (go_split_ands; refine SB.mk ?_; go_grown; done))
    first | (refine take_on (i := 0) (v := ?_) rfl (by kernel_rfl) (by kernel_rfl) (by kernel_rfl) (fun _ _ _ h => h) rfl ?_ (by assumption) ?_; rotate_left; · (intro w' hSw; (try dsimp only at hSw); go_simp; (try with_reducible rfl))) | (refine take_off (i := 0) rfl (by kernel_rfl) (by kernel_rfl) (by kernel_rfl) (fun _ _ _ h => h) rfl (by assumption) ?_)
    (try simp only [Act.put, List.setIfInBounds_toArray, List.set_cons_zero, List.set_cons_succ])
    first | (refine take_on (i := 1) (v := ?_) rfl (by kernel_rfl) (by kernel_rfl) (by kernel_rfl) (fun _ _ _ h => h) rfl ?_ (by assumption) ?_; rotate_left; · (intro w' hSw; (try dsimp only at hSw); go_simp; (try with_reducible rfl))) | (refine take_off (i := 1) rfl (by kernel_rfl) (by kernel_rfl) (by kernel_rfl) (fun _ _ _ h => h) rfl (by assumption) ?_)
    (try simp only [Act.put, List.setIfInBounds_toArray, List.set_cons_zero, List.set_cons_succ])
    refine wpAnyH_ready (rs := [2]) (by kernel_rfl) (by simp) ?_
    refine AllReadyH.cons rfl (fun K hK => ?_) AllReadyH.nil
    rw [if_pos (by rfl)]
    go_simp
    go_at_call 13
    refine (toInk_any A0 n0 c0 S0 _ (by first | exact HA0_7.out | exact HA0_7.out.alloc _ | exact (HA0_7.out.alloc _).alloc _ | exact ((HA0_7.out.alloc _).alloc _).alloc _ | exact HA0_7.out.drew | exact (HA0_7.out.drew).alloc _) hs0 hm0).mono ?_
    rintro e w8 ⟨g8, T8, rfl, hp8, ho8, hb8⟩
    have hB8 : Below w7.heap.size w7 w8 := Below.next (by go_grown) hb8
    have hT8 : Below w.heap.size w w8 := Below.next hT7 hB8
    have hz8 := hb8.size
    (try simp only [World.size_alloc, World.size_drew] at hz8)
    have bx0_l8 : w.heap.size < w8.heap.size := Nat.lt_of_lt_of_le bx0_l7 hB8.size
    have bx0_0_8 : w8.cell? ⟨w.heap.size, 0, none⟩ = some (.slice A0 n0 c0) := (hB8.cell (p := ⟨w.heap.size, 0, none⟩) bx0_l7).trans bx0_0_7
    have bx1_l8 : w.heap.size + 1 < w8.heap.size := Nat.lt_of_lt_of_le bx1_l7 hB8.size
    have bx1_0_8 : w8.cell? ⟨w.heap.size + 1, 0, none⟩ = some (.slice A1 n1 c1) := (hB8.cell (p := ⟨w.heap.size + 1, 0, none⟩) bx1_l7).trans bx1_0_7
    have bW0_l8 : b3 < w8.heap.size := Nat.lt_of_lt_of_le bW0_l7 hB8.size
    have bW0_0_8 : w8.cell? ⟨b3, 0, none⟩ = some (.slice A3 N c3) := (hB8.cell (p := ⟨b3, 0, none⟩) bW0_l7).trans bW0_0_7
    have bX0_l8 : w4.heap.size < w8.heap.size := Nat.lt_of_lt_of_le bX0_l7 hB8.size
    have bX0_0_8 : w8.cell? ⟨w4.heap.size, 0, none⟩ = some (.slice (some ⟨g4, 0, none⟩) n0 n0) := (hB8.cell (p := ⟨w4.heap.size, 0, none⟩) bX0_l7).trans bX0_0_7
    have bX1_l8 : w5.heap.size < w8.heap.size := Nat.lt_of_lt_of_le bX1_l7 hB8.size
    have bX1_0_8 : w8.cell? ⟨w5.heap.size, 0, none⟩ = some (.slice (some ⟨g5, 0, none⟩) n1 n1) := (hB8.cell (p := ⟨w5.heap.size, 0, none⟩) bX1_l7).trans bX1_0_7
    have bG0_l8 : w6.heap.size < w8.heap.size := Nat.lt_of_lt_of_le bG0_l7 hB8.size
    have bG0_0_8 : w8.cell? ⟨w6.heap.size, 0, none⟩ = some (.slice A6 N c6) := (hB8.cell (p := ⟨w6.heap.size, 0, none⟩) bG0_l7).trans bG0_0_7
    clear bx0_l7 bx0_0_7 bx1_l7 bx1_0_7 bW0_l7 bW0_0_7 bX0_l7 bX0_0_7 bX1_l7 bX1_0_7 bG0_l7 bG0_0_7
    have W0_8 := Lib.hid (W0_7.out.next hB8)
    have X0_8 := Lib.hid (X0_7.out.next hB8)
    have G0_8 := Lib.hid (G0_7.out.next hB8)
    have X1_8 := Lib.hid (X1_7.out.next hB8)
    clear W0_7 X0_7 G0_7 X1_7
    have HA0_8 := Lib.hid (HA0_0.out.below hT8)
    clear HA0_7
    have HA1_8 := Lib.hid (HA1_0.out.below hT8)
    clear HA1_7
    refine hK.out _ _ ?_ (fun hHeld2 => ?_)
    · (try dsimp only); exact SB.mk (Below.next (by go_grown) hb8)
    have hQ0 : Below w7.heap.size w7 w8 := Below.next (by go_grown) hb8
    clear hK K hHeld; have hHeld := hHeld2; clear hHeld2; (try simp only [Act.put, List.setIfInBounds_toArray, List.set_cons_zero, List.set_cons_succ])
    have XE_8 : Hid (InkOwn w8 (w7.heap.size) (w8.heap.size) (.slice (some ⟨g8, 0, none⟩) n0 n0) T8) := by have h := ho8; (try simp only [World.size_alloc, World.size_drew] at h); exact h
    clear ho8
    have XE_l := Lib.hid (len_of hp8 LA0.out)
    have XE_p := Lib.hid hp8
    have XE_s := each_of hp8 hs0
    clear hp8
    refine wpAnyH_ready (rs := [3]) (by kernel_rfl) (by simp) ?_
    refine AllReadyH.cons rfl (fun K hK => ?_) AllReadyH.nil
    rw [if_pos (by rfl)]
    go_simp
    go_at_call 15
    refine (eqInk_same _ _ n0 n0 n0 T4 T8 _ (by first | exact (X0_8.out.rd X0_l.out) | exact (X0_8.out.rd X0_l.out).alloc _ | exact ((X0_8.out.rd X0_l.out).alloc _).alloc _ | exact (((X0_8.out.rd X0_l.out).alloc _).alloc _).alloc _ | exact ((((X0_8.out.rd X0_l.out).alloc _).alloc _).alloc _).alloc _ | exact (X0_8.out.rd X0_l.out).drew | exact ((X0_8.out.rd X0_l.out).drew).alloc _) (by first | exact (XE_8.out.rd XE_l.out) | exact (XE_8.out.rd XE_l.out).alloc _ | exact ((XE_8.out.rd XE_l.out).alloc _).alloc _ | exact (((XE_8.out.rd XE_l.out).alloc _).alloc _).alloc _ | exact ((((XE_8.out.rd XE_l.out).alloc _).alloc _).alloc _).alloc _ | exact (XE_8.out.rd XE_l.out).drew | exact ((XE_8.out.rd XE_l.out).drew).alloc _) (X0_p.out.trans XE_p.out.symm) X0_s hm0).mono ?_
    rintro e w9 ⟨rfl, hb9⟩
    have hB9 : Below w8.heap.size w8 w9 := Below.next (by go_grown) hb9
    have hT9 : Below w.heap.size w w9 := Below.next hT8 hB9
    have hz9 := hb9.size
    (try simp only [World.size_alloc, World.size_drew] at hz9)
    have bx0_l9 : w.heap.size < w9.heap.size := Nat.lt_of_lt_of_le bx0_l8 hB9.size
    have bx0_0_9 : w9.cell? ⟨w.heap.size, 0, none⟩ = some (.slice A0 n0 c0) := (hB9.cell (p := ⟨w.heap.size, 0, none⟩) bx0_l8).trans bx0_0_8
    have bx1_l9 : w.heap.size + 1 < w9.heap.size := Nat.lt_of_lt_of_le bx1_l8 hB9.size
    have bx1_0_9 : w9.cell? ⟨w.heap.size + 1, 0, none⟩ = some (.slice A1 n1 c1) := (hB9.cell (p := ⟨w.heap.size + 1, 0, none⟩) bx1_l8).trans bx1_0_8
    have bW0_l9 : b3 < w9.heap.size := Nat.lt_of_lt_of_le bW0_l8 hB9.size
    have bW0_0_9 : w9.cell? ⟨b3, 0, none⟩ = some (.slice A3 N c3) := (hB9.cell (p := ⟨b3, 0, none⟩) bW0_l8).trans bW0_0_8
    have bX0_l9 : w4.heap.size < w9.heap.size := Nat.lt_of_lt_of_le bX0_l8 hB9.size
    have bX0_0_9 : w9.cell? ⟨w4.heap.size, 0, none⟩ = some (.slice (some ⟨g4, 0, none⟩) n0 n0) := (hB9.cell (p := ⟨w4.heap.size, 0, none⟩) bX0_l8).trans bX0_0_8
    have bX1_l9 : w5.heap.size < w9.heap.size := Nat.lt_of_lt_of_le bX1_l8 hB9.size
    have bX1_0_9 : w9.cell? ⟨w5.heap.size, 0, none⟩ = some (.slice (some ⟨g5, 0, none⟩) n1 n1) := (hB9.cell (p := ⟨w5.heap.size, 0, none⟩) bX1_l8).trans bX1_0_8
    have bG0_l9 : w6.heap.size < w9.heap.size := Nat.lt_of_lt_of_le bG0_l8 hB9.size
    have bG0_0_9 : w9.cell? ⟨w6.heap.size, 0, none⟩ = some (.slice A6 N c6) := (hB9.cell (p := ⟨w6.heap.size, 0, none⟩) bG0_l8).trans bG0_0_8
    clear bx0_l8 bx0_0_8 bx1_l8 bx1_0_8 bW0_l8 bW0_0_8 bX0_l8 bX0_0_8 bX1_l8 bX1_0_8 bG0_l8 bG0_0_8
    have W0_9 := Lib.hid (W0_8.out.next hB9)
    have X0_9 := Lib.hid (X0_8.out.next hB9)
    have G0_9 := Lib.hid (G0_8.out.next hB9)
    have X1_9 := Lib.hid (X1_8.out.next hB9)
    clear W0_8 X0_8 G0_8 X1_8
    have HA0_9 := Lib.hid (HA0_0.out.below hT9)
    clear HA0_8
    have HA1_9 := Lib.hid (HA1_0.out.below hT9)
    clear HA1_8
    refine hK.out _ _ ?_ (fun hHeld2 => ?_)
    · (try dsimp only); exact SB.mk (Below.next hQ0 hB9)
    have hQ0 : Below w7.heap.size w7 w9 := Below.next hQ0 hB9
    clear hK K hHeld; have hHeld := hHeld2; clear hHeld2; (try simp only [Act.put, List.setIfInBounds_toArray, List.set_cons_zero, List.set_cons_succ])
    first | (refine take_on (i := 4) (v := ?_) rfl (by kernel_rfl) (by kernel_rfl) (by kernel_rfl) (fun _ _ _ h => h) rfl ?_ (by assumption) ?_; rotate_left; · (intro w' hSw; (try dsimp only at hSw); go_simp; (try with_reducible rfl))) | (refine take_off (i := 4) rfl (by kernel_rfl) (by kernel_rfl) (by kernel_rfl) (fun _ _ _ h => h) rfl (by assumption) ?_)
    (try simp only [Act.put, List.setIfInBounds_toArray, List.set_cons_zero, List.set_cons_succ])
    refine wpAnyH_done (by kernel_rfl) ?_ _
    clear hHeld
    clear hQ0
    go_wp2_with fail
    refine wp_region_held_drew (S := (fun w' => (∀ kb ko, kb < w9.heap.size → w'.cell? ⟨kb, ko, none⟩ = w9.cell? ⟨kb, ko, none⟩) ∧ w9.heap.size ≤ w'.heap.size ∧ Below w9.heap.size w9 w')) (by kernel_rfl) ?_ (fun hHeld => ?_)
    · (try dsimp only); (first | exact SB.mk hkB | exact SB.mk ((Below.refl _ _).drew) | (refine SB.mk ?_; go_grown; done) | (go_split_ands; refine SB.mk (Below.drew ?_); assumption) | (go_split_ands; refine SB.mk ?_; go_grown; done))
    first | (refine take_on (i := 0) (v := ?_) rfl (by kernel_rfl) (by kernel_rfl) (by kernel_rfl) (fun _ _ _ h => h) rfl ?_ (by assumption) ?_; rotate_left; · (intro w' hSw; (try dsimp only at hSw); go_simp; (try with_reducible rfl))) | (refine take_off (i := 0) rfl (by kernel_rfl) (by kernel_rfl) (by kernel_rfl) (fun _ _ _ h => h) rfl (by assumption) ?_)
    (try simp only [Act.put, List.setIfInBounds_toArray, List.set_cons_zero, List.set_cons_succ])
    first | (refine take_on (i := 1) (v := ?_) rfl (by kernel_rfl) (by kernel_rfl) (by kernel_rfl) (fun _ _ _ h => h) rfl ?_ (by assumption) ?_; rotate_left; · (intro w' hSw; (try dsimp only at hSw); go_simp; (try with_reducible rfl))) | (refine take_off (i := 1) rfl (by kernel_rfl) (by kernel_rfl) (by kernel_rfl) (fun _ _ _ h => h) rfl (by assumption) ?_)
    (try simp only [Act.put, List.setIfInBounds_toArray, List.set_cons_zero, List.set_cons_succ])
    refine wpAnyH_ready (rs := [2]) (by kernel_rfl) (by simp) ?_
    refine AllReadyH.cons rfl (fun K hK => ?_) AllReadyH.nil
    rw [if_pos (by rfl)]
    go_simp
    go_at_call 31
    refine (toStroke_any A1 n1 c1 xs1 _ (by first | exact HA1_9.out | exact HA1_9.out.alloc _ | exact (HA1_9.out.alloc _).alloc _ | exact ((HA1_9.out.alloc _).alloc _).alloc _ | exact HA1_9.out.drew | exact (HA1_9.out.drew).alloc _) LA1.out hm1).mono ?_
    rintro e w10 ⟨g10, rfl, hg10, hk10, hb10⟩
    have hB10 : Below w9.heap.size w9 w10 := Below.next (by go_grown) hb10
    have hT10 : Below w.heap.size w w10 := Below.next hT9 hB10
    have hz10 := hb10.size
    (try simp only [World.size_alloc, World.size_drew] at hz10)
    have bx0_l10 : w.heap.size < w10.heap.size := Nat.lt_of_lt_of_le bx0_l9 hB10.size
    have bx0_0_10 : w10.cell? ⟨w.heap.size, 0, none⟩ = some (.slice A0 n0 c0) := (hB10.cell (p := ⟨w.heap.size, 0, none⟩) bx0_l9).trans bx0_0_9
    have bx1_l10 : w.heap.size + 1 < w10.heap.size := Nat.lt_of_lt_of_le bx1_l9 hB10.size
    have bx1_0_10 : w10.cell? ⟨w.heap.size + 1, 0, none⟩ = some (.slice A1 n1 c1) := (hB10.cell (p := ⟨w.heap.size + 1, 0, none⟩) bx1_l9).trans bx1_0_9
    have bW0_l10 : b3 < w10.heap.size := Nat.lt_of_lt_of_le bW0_l9 hB10.size
    have bW0_0_10 : w10.cell? ⟨b3, 0, none⟩ = some (.slice A3 N c3) := (hB10.cell (p := ⟨b3, 0, none⟩) bW0_l9).trans bW0_0_9
    have bX0_l10 : w4.heap.size < w10.heap.size := Nat.lt_of_lt_of_le bX0_l9 hB10.size
    have bX0_0_10 : w10.cell? ⟨w4.heap.size, 0, none⟩ = some (.slice (some ⟨g4, 0, none⟩) n0 n0) := (hB10.cell (p := ⟨w4.heap.size, 0, none⟩) bX0_l9).trans bX0_0_9
    have bX1_l10 : w5.heap.size < w10.heap.size := Nat.lt_of_lt_of_le bX1_l9 hB10.size
    have bX1_0_10 : w10.cell? ⟨w5.heap.size, 0, none⟩ = some (.slice (some ⟨g5, 0, none⟩) n1 n1) := (hB10.cell (p := ⟨w5.heap.size, 0, none⟩) bX1_l9).trans bX1_0_9
    have bG0_l10 : w6.heap.size < w10.heap.size := Nat.lt_of_lt_of_le bG0_l9 hB10.size
    have bG0_0_10 : w10.cell? ⟨w6.heap.size, 0, none⟩ = some (.slice A6 N c6) := (hB10.cell (p := ⟨w6.heap.size, 0, none⟩) bG0_l9).trans bG0_0_9
    clear bx0_l9 bx0_0_9 bx1_l9 bx1_0_9 bW0_l9 bW0_0_9 bX0_l9 bX0_0_9 bX1_l9 bX1_0_9 bG0_l9 bG0_0_9
    have W0_10 := Lib.hid (W0_9.out.next hB10)
    have X0_10 := Lib.hid (X0_9.out.next hB10)
    have G0_10 := Lib.hid (G0_9.out.next hB10)
    have X1_10 := Lib.hid (X1_9.out.next hB10)
    clear W0_9 X0_9 G0_9 X1_9
    have HA0_10 := Lib.hid (HA0_0.out.below hT10)
    clear HA0_9
    have HA1_10 := Lib.hid (HA1_0.out.below hT10)
    clear HA1_9
    refine hK.out _ _ ?_ (fun hHeld2 => ?_)
    · (try dsimp only); exact SB.mk (Below.next (by go_grown) hb10)
    have hQ0 : Below w9.heap.size w9 w10 := Below.next (by go_grown) hb10
    clear hK K hHeld; have hHeld := hHeld2; clear hHeld2; (try simp only [Act.put, List.setIfInBounds_toArray, List.set_cons_zero, List.set_cons_succ])
    have XE_10 : Hid (Own ptC 72 3 w10 (w9.heap.size) (.slice (some ⟨g10, 0, none⟩) n1 n1) xs1) := by have h := (show Own ptC 72 3 w10 _ (.slice (some ⟨g10, 0, none⟩) n1 n1) xs1 from by have ho := Own.of_bk hk10 ptC_len (by rw [LA1.out]; unfold maxLen; omega) hg10; rw [LA1.out] at ho; exact ho); (try simp only [World.size_alloc, World.size_drew] at h); exact h
    have HI_XE : Hid (∀ k, Value.ownBlock (.slice (some ⟨g10, 0, none⟩) n1 n1) = some k → w9.heap.size ≤ k ∧ k < w10.heap.size) := XE_10.out.lt
    clear hk10
    refine wpAnyH_ready (rs := [3]) (by kernel_rfl) (by simp) ?_
    refine AllReadyH.cons rfl (fun K hK => ?_) AllReadyH.nil
    rw [if_pos (by rfl)]
    go_simp
    go_at_call 33
    refine (eqStroke_same _ _ n1 _ _ xs1 _ (by first | exact (X1_10.out.rdS LA1.out) | exact (X1_10.out.rdS LA1.out).alloc _ | exact ((X1_10.out.rdS LA1.out).alloc _).alloc _ | exact (((X1_10.out.rdS LA1.out).alloc _).alloc _).alloc _ | exact ((((X1_10.out.rdS LA1.out).alloc _).alloc _).alloc _).alloc _ | exact (X1_10.out.rdS LA1.out).drew | exact ((X1_10.out.rdS LA1.out).drew).alloc _) (by first | exact (XE_10.out.rdS LA1.out) | exact (XE_10.out.rdS LA1.out).alloc _ | exact ((XE_10.out.rdS LA1.out).alloc _).alloc _ | exact (((XE_10.out.rdS LA1.out).alloc _).alloc _).alloc _ | exact ((((XE_10.out.rdS LA1.out).alloc _).alloc _).alloc _).alloc _ | exact (XE_10.out.rdS LA1.out).drew | exact ((XE_10.out.rdS LA1.out).drew).alloc _) LA1.out hm1).mono ?_
    rintro e w11 ⟨rfl, hb11⟩
    have hB11 : Below w10.heap.size w10 w11 := Below.next (by go_grown) hb11
    have hT11 : Below w.heap.size w w11 := Below.next hT10 hB11
    have hz11 := hb11.size
    (try simp only [World.size_alloc, World.size_drew] at hz11)
    have bx0_l11 : w.heap.size < w11.heap.size := Nat.lt_of_lt_of_le bx0_l10 hB11.size
    have bx0_0_11 : w11.cell? ⟨w.heap.size, 0, none⟩ = some (.slice A0 n0 c0) := (hB11.cell (p := ⟨w.heap.size, 0, none⟩) bx0_l10).trans bx0_0_10
    have bx1_l11 : w.heap.size + 1 < w11.heap.size := Nat.lt_of_lt_of_le bx1_l10 hB11.size
    have bx1_0_11 : w11.cell? ⟨w.heap.size + 1, 0, none⟩ = some (.slice A1 n1 c1) := (hB11.cell (p := ⟨w.heap.size + 1, 0, none⟩) bx1_l10).trans bx1_0_10
    have bW0_l11 : b3 < w11.heap.size := Nat.lt_of_lt_of_le bW0_l10 hB11.size
    have bW0_0_11 : w11.cell? ⟨b3, 0, none⟩ = some (.slice A3 N c3) := (hB11.cell (p := ⟨b3, 0, none⟩) bW0_l10).trans bW0_0_10
    have bX0_l11 : w4.heap.size < w11.heap.size := Nat.lt_of_lt_of_le bX0_l10 hB11.size
    have bX0_0_11 : w11.cell? ⟨w4.heap.size, 0, none⟩ = some (.slice (some ⟨g4, 0, none⟩) n0 n0) := (hB11.cell (p := ⟨w4.heap.size, 0, none⟩) bX0_l10).trans bX0_0_10
    have bX1_l11 : w5.heap.size < w11.heap.size := Nat.lt_of_lt_of_le bX1_l10 hB11.size
    have bX1_0_11 : w11.cell? ⟨w5.heap.size, 0, none⟩ = some (.slice (some ⟨g5, 0, none⟩) n1 n1) := (hB11.cell (p := ⟨w5.heap.size, 0, none⟩) bX1_l10).trans bX1_0_10
    have bG0_l11 : w6.heap.size < w11.heap.size := Nat.lt_of_lt_of_le bG0_l10 hB11.size
    have bG0_0_11 : w11.cell? ⟨w6.heap.size, 0, none⟩ = some (.slice A6 N c6) := (hB11.cell (p := ⟨w6.heap.size, 0, none⟩) bG0_l10).trans bG0_0_10
    clear bx0_l10 bx0_0_10 bx1_l10 bx1_0_10 bW0_l10 bW0_0_10 bX0_l10 bX0_0_10 bX1_l10 bX1_0_10 bG0_l10 bG0_0_10
    have W0_11 := Lib.hid (W0_10.out.next hB11)
    have X0_11 := Lib.hid (X0_10.out.next hB11)
    have G0_11 := Lib.hid (G0_10.out.next hB11)
    have X1_11 := Lib.hid (X1_10.out.next hB11)
    clear W0_10 X0_10 G0_10 X1_10
    have HA0_11 := Lib.hid (HA0_0.out.below hT11)
    clear HA0_10
    have HA1_11 := Lib.hid (HA1_0.out.below hT11)
    clear HA1_10
    refine hK.out _ _ ?_ (fun hHeld2 => ?_)
    · (try dsimp only); exact SB.mk (Below.next hQ0 hB11)
    have hQ0 : Below w9.heap.size w9 w11 := Below.next hQ0 hB11
    clear hK K hHeld; have hHeld := hHeld2; clear hHeld2; (try simp only [Act.put, List.setIfInBounds_toArray, List.set_cons_zero, List.set_cons_succ])
    first | (refine take_on (i := 4) (v := ?_) rfl (by kernel_rfl) (by kernel_rfl) (by kernel_rfl) (fun _ _ _ h => h) rfl ?_ (by assumption) ?_; rotate_left; · (intro w' hSw; (try dsimp only at hSw); go_simp; (try with_reducible rfl))) | (refine take_off (i := 4) rfl (by kernel_rfl) (by kernel_rfl) (by kernel_rfl) (fun _ _ _ h => h) rfl (by assumption) ?_)
    (try simp only [Act.put, List.setIfInBounds_toArray, List.set_cons_zero, List.set_cons_succ])
    refine wpAnyH_done (by kernel_rfl) ?_ _
    clear hHeld
    clear hQ0
    go_wp2_with fail
    refine (markInk_x _ _ _ n0 n0 T4 _ (by first | exact X0_11.out | exact X0_11.out.alloc _ | exact (X0_11.out.alloc _).alloc _ | exact ((X0_11.out.alloc _).alloc _).alloc _ | exact (((X0_11.out.alloc _).alloc _).alloc _).alloc _ | exact X0_11.out.drew | exact (X0_11.out.drew).alloc _) X0_l.out (by rw [show sumL T4 n0 = sumL S0 n0 from by rw [sumL_all X0_l.out, sumL_all LA0.out, X0_p.out]]; have := HLE0.out; omega)).mono ?_
    rintro e w12 ⟨mx0, rfl, hmx0, hc12⟩
    have hz12 : w11.heap.size ≤ w12.heap.size := hc12.size
    have hT12 : Below w.heap.size w w12 := hT11.trans ((hc12.below (by omega)).mono (by omega))
    have W0_12 := Lib.hid (W0_11.out.chg hc12 (by omega))
    have G0_12 := Lib.hid (G0_11.out.chg hc12 (by omega))
    have X1_12 := Lib.hid (X1_11.out.chg HI_X1.out hc12 (by omega))
    have bx0_l12 : w.heap.size < w12.heap.size := Nat.lt_of_lt_of_le bx0_l11 hz12
    have bx0_0_12 : w12.cell? ⟨w.heap.size, 0, none⟩ = some (.slice A0 n0 c0) := (hc12.cell 0 bx0_l11 (by omega)).trans bx0_0_11
    have bx1_l12 : w.heap.size + 1 < w12.heap.size := Nat.lt_of_lt_of_le bx1_l11 hz12
    have bx1_0_12 : w12.cell? ⟨w.heap.size + 1, 0, none⟩ = some (.slice A1 n1 c1) := (hc12.cell 0 bx1_l11 (by omega)).trans bx1_0_11
    have bW0_l12 : b3 < w12.heap.size := Nat.lt_of_lt_of_le bW0_l11 hz12
    have bW0_0_12 : w12.cell? ⟨b3, 0, none⟩ = some (.slice A3 N c3) := (hc12.cell 0 bW0_l11 (by omega)).trans bW0_0_11
    have bX0_l12 : w4.heap.size < w12.heap.size := Nat.lt_of_lt_of_le bX0_l11 hz12
    have bX0_0_12 : w12.cell? ⟨w4.heap.size, 0, none⟩ = some (.slice (some ⟨g4, 0, none⟩) n0 n0) := (hc12.cell 0 bX0_l11 (by omega)).trans bX0_0_11
    have bX1_l12 : w5.heap.size < w12.heap.size := Nat.lt_of_lt_of_le bX1_l11 hz12
    have bX1_0_12 : w12.cell? ⟨w5.heap.size, 0, none⟩ = some (.slice (some ⟨g5, 0, none⟩) n1 n1) := (hc12.cell 0 bX1_l11 (by omega)).trans bX1_0_11
    have bG0_l12 : w6.heap.size < w12.heap.size := Nat.lt_of_lt_of_le bG0_l11 hz12
    have bG0_0_12 : w12.cell? ⟨w6.heap.size, 0, none⟩ = some (.slice A6 N c6) := (hc12.cell 0 bG0_l11 (by omega)).trans bG0_0_11
    have HA0_12 := Lib.hid (HA0_0.out.below hT12)
    have HA1_12 := Lib.hid (HA1_0.out.below hT12)
    clear W0_11 X0_11 G0_11 X1_11 HA0_11 HA1_11 bx0_l11 bx0_0_11 bx1_l11 bx1_0_11 bW0_l11 bW0_0_11 bX0_l11 bX0_0_11 bX1_l11 bX1_0_11 bG0_l11 bG0_0_11
    go_wp2_with fail
    refine (markStroke_any _ _ xs1 n1 mx0 _ (by first | exact X1_12.out | exact X1_12.out.alloc _ | exact (X1_12.out.alloc _).alloc _ | exact ((X1_12.out.alloc _).alloc _).alloc _ | exact (((X1_12.out.alloc _).alloc _).alloc _).alloc _ | exact X1_12.out.drew | exact (X1_12.out.drew).alloc _) LA1.out hm1 (by omega)).mono ?_
    rintro e w13 ⟨rfl, hown13, hgr13⟩
    have hc13 : Chg (w4.heap.size + 1) (w5.heap.size) w12 w13 := Chg.of_grown hgr13 HI_X1.out
    clear hown13 hgr13
    have hz13 : w12.heap.size ≤ w13.heap.size := hc13.size
    have hT13 : Below w.heap.size w w13 := hT12.trans ((hc13.below (by omega)).mono (by omega))
    have W0_13 := Lib.hid (W0_12.out.chg hc13 (by omega))
    have G0_13 := Lib.hid (G0_12.out.chg hc13 (by omega))
    have bx0_l13 : w.heap.size < w13.heap.size := Nat.lt_of_lt_of_le bx0_l12 hz13
    have bx0_0_13 : w13.cell? ⟨w.heap.size, 0, none⟩ = some (.slice A0 n0 c0) := (hc13.cell 0 bx0_l12 (by omega)).trans bx0_0_12
    have bx1_l13 : w.heap.size + 1 < w13.heap.size := Nat.lt_of_lt_of_le bx1_l12 hz13
    have bx1_0_13 : w13.cell? ⟨w.heap.size + 1, 0, none⟩ = some (.slice A1 n1 c1) := (hc13.cell 0 bx1_l12 (by omega)).trans bx1_0_12
    have bW0_l13 : b3 < w13.heap.size := Nat.lt_of_lt_of_le bW0_l12 hz13
    have bW0_0_13 : w13.cell? ⟨b3, 0, none⟩ = some (.slice A3 N c3) := (hc13.cell 0 bW0_l12 (by omega)).trans bW0_0_12
    have bX0_l13 : w4.heap.size < w13.heap.size := Nat.lt_of_lt_of_le bX0_l12 hz13
    have bX0_0_13 : w13.cell? ⟨w4.heap.size, 0, none⟩ = some (.slice (some ⟨g4, 0, none⟩) n0 n0) := (hc13.cell 0 bX0_l12 (by omega)).trans bX0_0_12
    have bX1_l13 : w5.heap.size < w13.heap.size := Nat.lt_of_lt_of_le bX1_l12 hz13
    have bX1_0_13 : w13.cell? ⟨w5.heap.size, 0, none⟩ = some (.slice (some ⟨g5, 0, none⟩) n1 n1) := (hc13.cell 0 bX1_l12 (by omega)).trans bX1_0_12
    have bG0_l13 : w6.heap.size < w13.heap.size := Nat.lt_of_lt_of_le bG0_l12 hz13
    have bG0_0_13 : w13.cell? ⟨w6.heap.size, 0, none⟩ = some (.slice A6 N c6) := (hc13.cell 0 bG0_l12 (by omega)).trans bG0_0_12
    have HA0_13 := Lib.hid (HA0_0.out.below hT13)
    have HA1_13 := Lib.hid (HA1_0.out.below hT13)
    clear W0_12 G0_12 X1_12 HA0_12 HA1_12 bx0_l12 bx0_0_12 bx1_l12 bx1_0_12 bW0_l12 bW0_0_12 bX0_l12 bX0_0_12 bX1_l12 bX1_0_12 bG0_l12 bG0_0_12
    go_wp2_with fail
    refine (eqInk_same _ _ N _ _ T6 T3 _ (by first | exact (G0_13.out.rd G0_l.out) | exact (G0_13.out.rd G0_l.out).alloc _ | exact ((G0_13.out.rd G0_l.out).alloc _).alloc _ | exact (((G0_13.out.rd G0_l.out).alloc _).alloc _).alloc _ | exact ((((G0_13.out.rd G0_l.out).alloc _).alloc _).alloc _).alloc _ | exact (G0_13.out.rd G0_l.out).drew | exact ((G0_13.out.rd G0_l.out).drew).alloc _) (by first | exact (W0_13.out.rd W0_l.out) | exact (W0_13.out.rd W0_l.out).alloc _ | exact ((W0_13.out.rd W0_l.out).alloc _).alloc _ | exact (((W0_13.out.rd W0_l.out).alloc _).alloc _).alloc _ | exact ((((W0_13.out.rd W0_l.out).alloc _).alloc _).alloc _).alloc _ | exact (W0_13.out.rd W0_l.out).drew | exact ((W0_13.out.rd W0_l.out).drew).alloc _) (G0_p.out.trans W0_p.out.symm) G0_s hN).mono ?_
    rintro e w14 ⟨rfl, hb14⟩
    have hB14 : Below w13.heap.size w13 w14 := Below.next (by go_grown) hb14
    have hT14 : Below w.heap.size w w14 := Below.next hT13 hB14
    have hz14 := hb14.size
    (try simp only [World.size_alloc, World.size_drew] at hz14)
    have bx0_l14 : w.heap.size < w14.heap.size := Nat.lt_of_lt_of_le bx0_l13 hB14.size
    have bx0_0_14 : w14.cell? ⟨w.heap.size, 0, none⟩ = some (.slice A0 n0 c0) := (hB14.cell (p := ⟨w.heap.size, 0, none⟩) bx0_l13).trans bx0_0_13
    have bx1_l14 : w.heap.size + 1 < w14.heap.size := Nat.lt_of_lt_of_le bx1_l13 hB14.size
    have bx1_0_14 : w14.cell? ⟨w.heap.size + 1, 0, none⟩ = some (.slice A1 n1 c1) := (hB14.cell (p := ⟨w.heap.size + 1, 0, none⟩) bx1_l13).trans bx1_0_13
    have bW0_l14 : b3 < w14.heap.size := Nat.lt_of_lt_of_le bW0_l13 hB14.size
    have bW0_0_14 : w14.cell? ⟨b3, 0, none⟩ = some (.slice A3 N c3) := (hB14.cell (p := ⟨b3, 0, none⟩) bW0_l13).trans bW0_0_13
    have bX0_l14 : w4.heap.size < w14.heap.size := Nat.lt_of_lt_of_le bX0_l13 hB14.size
    have bX0_0_14 : w14.cell? ⟨w4.heap.size, 0, none⟩ = some (.slice (some ⟨g4, 0, none⟩) n0 n0) := (hB14.cell (p := ⟨w4.heap.size, 0, none⟩) bX0_l13).trans bX0_0_13
    have bX1_l14 : w5.heap.size < w14.heap.size := Nat.lt_of_lt_of_le bX1_l13 hB14.size
    have bX1_0_14 : w14.cell? ⟨w5.heap.size, 0, none⟩ = some (.slice (some ⟨g5, 0, none⟩) n1 n1) := (hB14.cell (p := ⟨w5.heap.size, 0, none⟩) bX1_l13).trans bX1_0_13
    have bG0_l14 : w6.heap.size < w14.heap.size := Nat.lt_of_lt_of_le bG0_l13 hB14.size
    have bG0_0_14 : w14.cell? ⟨w6.heap.size, 0, none⟩ = some (.slice A6 N c6) := (hB14.cell (p := ⟨w6.heap.size, 0, none⟩) bG0_l13).trans bG0_0_13
    clear bx0_l13 bx0_0_13 bx1_l13 bx1_0_13 bW0_l13 bW0_0_13 bX0_l13 bX0_0_13 bX1_l13 bX1_0_13 bG0_l13 bG0_0_13
    have W0_14 := Lib.hid (W0_13.out.next hB14)
    have G0_14 := Lib.hid (G0_13.out.next hB14)
    clear W0_13 G0_13
    have HA0_14 := Lib.hid (HA0_0.out.below hT14)
    clear HA0_13
    have HA1_14 := Lib.hid (HA1_0.out.below hT14)
    clear HA1_13
    go_wp2_with fail
    refine (markInk_L _ _ _ N _ mm T6 L _ (by first | exact G0_14.out | exact G0_14.out.alloc _ | exact (G0_14.out.alloc _).alloc _ | exact ((G0_14.out.alloc _).alloc _).alloc _ | exact (((G0_14.out.alloc _).alloc _).alloc _).alloc _ | exact G0_14.out.drew | exact (G0_14.out.drew).alloc _) G0_p.out HN.out HSM.out HMM.out).mono ?_
    rintro e w15 ⟨rfl, ho15, hc15⟩
    have hz15 : w14.heap.size ≤ w15.heap.size := hc15.size
    have hT15 : Below w.heap.size w w15 := hT14.trans ((hc15.below (by omega)).mono (by omega))
    have W0_15 := Lib.hid (W0_14.out.chg hc15 (by omega))
    have G0_15 : Hid (InkOwn w15 (w5.heap.size + 1) (w6.heap.size) (.slice A6 N c6) (mkS 1 T6)) := ho15
    clear ho15
    have bx0_l15 : w.heap.size < w15.heap.size := Nat.lt_of_lt_of_le bx0_l14 hz15
    have bx0_0_15 : w15.cell? ⟨w.heap.size, 0, none⟩ = some (.slice A0 n0 c0) := (hc15.cell 0 bx0_l14 (by omega)).trans bx0_0_14
    have bx1_l15 : w.heap.size + 1 < w15.heap.size := Nat.lt_of_lt_of_le bx1_l14 hz15
    have bx1_0_15 : w15.cell? ⟨w.heap.size + 1, 0, none⟩ = some (.slice A1 n1 c1) := (hc15.cell 0 bx1_l14 (by omega)).trans bx1_0_14
    have bW0_l15 : b3 < w15.heap.size := Nat.lt_of_lt_of_le bW0_l14 hz15
    have bW0_0_15 : w15.cell? ⟨b3, 0, none⟩ = some (.slice A3 N c3) := (hc15.cell 0 bW0_l14 (by omega)).trans bW0_0_14
    have bG0_l15 : w6.heap.size < w15.heap.size := Nat.lt_of_lt_of_le bG0_l14 hz15
    have bG0_0_15 : w15.cell? ⟨w6.heap.size, 0, none⟩ = some (.slice A6 N c6) := (hc15.cell 0 bG0_l14 (by omega)).trans bG0_0_14
    have HA0_15 := Lib.hid (HA0_0.out.below hT15)
    have HA1_15 := Lib.hid (HA1_0.out.below hT15)
    clear W0_14 G0_14 HA0_14 HA1_14 bx0_l14 bx0_0_14 bx1_l14 bx1_0_14 bW0_l14 bW0_0_14 bG0_l14 bG0_0_14
    go_wp2_with fail
    refine (heldInk_L _ N _ mm T6 L _ (by first | exact (G0_15.out.rdM G0_l.out) | exact (G0_15.out.rdM G0_l.out).alloc _ | exact ((G0_15.out.rdM G0_l.out).alloc _).alloc _ | exact (((G0_15.out.rdM G0_l.out).alloc _).alloc _).alloc _ | exact ((((G0_15.out.rdM G0_l.out).alloc _).alloc _).alloc _).alloc _ | exact (G0_15.out.rdM G0_l.out).drew | exact ((G0_15.out.rdM G0_l.out).drew).alloc _) G0_p.out HN.out HSM.out HMM.out).mono ?_
    rintro e w16 ⟨rfl, hb16⟩
    have hB16 : Below w15.heap.size w15 w16 := Below.next (by go_grown) hb16
    have hT16 : Below w.heap.size w w16 := Below.next hT15 hB16
    have hz16 := hb16.size
    (try simp only [World.size_alloc, World.size_drew] at hz16)
    have bx0_l16 : w.heap.size < w16.heap.size := Nat.lt_of_lt_of_le bx0_l15 hB16.size
    have bx0_0_16 : w16.cell? ⟨w.heap.size, 0, none⟩ = some (.slice A0 n0 c0) := (hB16.cell (p := ⟨w.heap.size, 0, none⟩) bx0_l15).trans bx0_0_15
    have bx1_l16 : w.heap.size + 1 < w16.heap.size := Nat.lt_of_lt_of_le bx1_l15 hB16.size
    have bx1_0_16 : w16.cell? ⟨w.heap.size + 1, 0, none⟩ = some (.slice A1 n1 c1) := (hB16.cell (p := ⟨w.heap.size + 1, 0, none⟩) bx1_l15).trans bx1_0_15
    have bW0_l16 : b3 < w16.heap.size := Nat.lt_of_lt_of_le bW0_l15 hB16.size
    have bW0_0_16 : w16.cell? ⟨b3, 0, none⟩ = some (.slice A3 N c3) := (hB16.cell (p := ⟨b3, 0, none⟩) bW0_l15).trans bW0_0_15
    have bG0_l16 : w6.heap.size < w16.heap.size := Nat.lt_of_lt_of_le bG0_l15 hB16.size
    have bG0_0_16 : w16.cell? ⟨w6.heap.size, 0, none⟩ = some (.slice A6 N c6) := (hB16.cell (p := ⟨w6.heap.size, 0, none⟩) bG0_l15).trans bG0_0_15
    clear bx0_l15 bx0_0_15 bx1_l15 bx1_0_15 bW0_l15 bW0_0_15 bG0_l15 bG0_0_15
    have W0_16 := Lib.hid (W0_15.out.next hB16)
    have G0_16 := Lib.hid (G0_15.out.next hB16)
    clear W0_15 G0_15
    have HA0_16 := Lib.hid (HA0_0.out.below hT16)
    clear HA0_15
    have HA1_16 := Lib.hid (HA1_0.out.below hT16)
    clear HA1_15
    go_upto_region 31 with fail
    go_cut [15, 16] (fun p q wx => ∃ (b : Nat) (A : Option Addr) (c : Nat) (T : List St) (lo hi : Nat), p = .pointer (some ⟨b, 0, none⟩) ∧ q = .int .i64 code ∧ wx.cell? ⟨b, 0, none⟩ = some (.slice A N c) ∧ b < wx.heap.size ∧ Hid (ptsOf T = L) ∧ Hid (InkOwn wx lo hi (.slice A N c) T) ∧ (b < lo ∨ hi ≤ b) ∧ w16.heap.size ≤ lo ∧ hi ≤ wx.heap.size ∧ w16.heap.size ≤ b ∧ Below w16.heap.size w16 wx)
    case first =>
      refine wp_region_held_drew (S := (fun w' => (∀ kb ko, kb < w16.heap.size → w'.cell? ⟨kb, ko, none⟩ = w16.cell? ⟨kb, ko, none⟩) ∧ w16.heap.size ≤ w'.heap.size ∧ Below w16.heap.size w16 w')) (by kernel_rfl) ?_ (fun hHeld => ?_)
      · (try dsimp only); exact SB.mk ((Below.refl _ _).drew)
      first | (refine take_on (i := 0) (v := ?_) rfl (by kernel_rfl) (by kernel_rfl) (by kernel_rfl) (fun _ _ _ h => h) rfl ?_ (by assumption) ?_; rotate_left; · (intro w' hSw; (try dsimp only at hSw); go_simp; (try with_reducible rfl))) | (refine take_off (i := 0) rfl (by kernel_rfl) (by kernel_rfl) (by kernel_rfl) (fun _ _ _ h => h) rfl (by assumption) ?_)
      (try simp only [Act.put, List.setIfInBounds_toArray, List.set_cons_zero, List.set_cons_succ])
      first | (refine take_on (i := 2) (v := ?_) rfl (by kernel_rfl) (by kernel_rfl) (by kernel_rfl) (fun _ _ _ h => h) rfl ?_ (by assumption) ?_; rotate_left; · (intro w' hSw; (try dsimp only at hSw); go_simp; (try with_reducible rfl))) | (refine take_off (i := 2) rfl (by kernel_rfl) (by kernel_rfl) (by kernel_rfl) (fun _ _ _ h => h) rfl (by assumption) ?_)
      (try simp only [Act.put, List.setIfInBounds_toArray, List.set_cons_zero, List.set_cons_succ])
      refine wpAnyH_ready (rs := [1, 8]) (by kernel_rfl) (by simp) ?_
      refine AllReadyH.cons rfl (fun K hK => ?_) (AllReadyH.cons rfl (fun K hK => ?_) (AllReadyH.nil))
      · rw [if_pos (by rfl)]
        go_simp
        go_at_call 13
        refine (toInk_any A0 n0 c0 S0 _ (HA0_16.out.below (hHeld.2.2)) hs0 hm0).mono ?_
        rintro e wa ⟨gwa, Twa, rfl, hpwa, howa, hbwa⟩
        have Rwa := Lib.hid (howa.rd (len_of hpwa LA0.out))
        have Rwa_p := Lib.hid hpwa
        have Rwa_s := each_of hpwa hs0
        have hQwa : Below w16.heap.size w16 wa := Below.next hHeld.2.2 hbwa
        have hzwa := hbwa.size
        (try simp only [World.size_alloc, World.size_drew] at hzwa)
        have hywa := hQwa.size
        (try simp only [World.size_alloc, World.size_drew] at hywa)
        refine hK.out _ _ ?_ (fun hHeld2 => ?_)
        · (try dsimp only); exact SB.mk hQwa
        clear hK K hHeld; have hHeld := hHeld2; clear hHeld2; (try simp only [Act.put, List.setIfInBounds_toArray, List.set_cons_zero, List.set_cons_succ])
        refine wpAnyH_ready (rs := [3, 8]) (by kernel_rfl) (by simp) ?_
        refine AllReadyH.cons rfl (fun K hK => ?_) (AllReadyH.cons rfl (fun K hK => ?_) (AllReadyH.nil))
        · rw [if_pos (by rfl)]
          go_simp
          go_at_call 31
          refine (toStroke_any A1 n1 c1 xs1 _ (HA1_16.out.below (hHeld.2.2)) LA1.out hm1).mono ?_
          rintro e wb ⟨gwb, rfl, hgwb, hkwb, hbwb⟩
          have Rwb := Lib.hid (hkwb.rd (n := n1) (size := 3) (by rw [rowOf_length ptC_len, LA1.out]))
          have Rwa := Lib.hid (Rwa.out.below hbwb)
          have hQwb : Below w16.heap.size w16 wb := Below.next hHeld.2.2 hbwb
          have hzwb := hbwb.size
          (try simp only [World.size_alloc, World.size_drew] at hzwb)
          have hywb := hQwb.size
          (try simp only [World.size_alloc, World.size_drew] at hywb)
          refine hK.out _ _ ?_ (fun hHeld2 => ?_)
          · (try dsimp only); exact SB.mk hQwb
          clear hK K hHeld; have hHeld := hHeld2; clear hHeld2; (try simp only [Act.put, List.setIfInBounds_toArray, List.set_cons_zero, List.set_cons_succ])
          refine wpAnyH_ready (rs := [4, 8]) (by kernel_rfl) (by simp) ?_
          refine AllReadyH.cons rfl (fun K hK => ?_) (AllReadyH.cons rfl (fun K hK => ?_) (AllReadyH.nil))
          · rw [if_pos (by rfl)]
            go_simp
            go_at_call 32
            refine (iAddStroke _ n0 n0 Twa _ n1 n1 xs1 N code (ptsOf S0) L _ Rwa.out Rwa_p.out Rwa_s hm0 Rwb.out LA1.out hm1 HR.out HN.out).mono ?_
            rintro e wd ⟨Awd, cwd, Twd, rfl, hpwd, howd, hbwd⟩
            have hQwd : Below w16.heap.size w16 wd := Below.next hHeld.2.2 hbwd
            have hzwd := hbwd.size
            (try simp only [World.size_alloc, World.size_drew] at hzwd)
            have hywd := hQwd.size
            (try simp only [World.size_alloc, World.size_drew] at hywd)
            refine hK.out _ _ ?_ (fun hHeld2 => ?_)
            · (try dsimp only); exact SB.mk hQwd
            clear hK K hHeld; have hHeld := hHeld2; clear hHeld2; (try simp only [Act.put, List.setIfInBounds_toArray, List.set_cons_zero, List.set_cons_succ])
            first | (refine take_on (i := 5) (v := ?_) rfl (by kernel_rfl) (by kernel_rfl) (by kernel_rfl) (fun _ _ _ h => h) rfl ?_ (by assumption) ?_; rotate_left; · (intro w' hSw; (try dsimp only at hSw); go_simp; (try with_reducible rfl))) | (refine take_off (i := 5) rfl (by kernel_rfl) (by kernel_rfl) (by kernel_rfl) (fun _ _ _ h => h) rfl (by assumption) ?_)
            (try simp only [Act.put, List.setIfInBounds_toArray, List.set_cons_zero, List.set_cons_succ])
            first | (refine take_on (i := 6) (v := ?_) rfl (by kernel_rfl) (by kernel_rfl) (by kernel_rfl) (fun _ _ _ h => h) rfl ?_ (by assumption) ?_; rotate_left; · (intro w' hSw; (try dsimp only at hSw); go_simp; (try with_reducible rfl))) | (refine take_off (i := 6) rfl (by kernel_rfl) (by kernel_rfl) (by kernel_rfl) (fun _ _ _ h => h) rfl (by assumption) ?_)
            (try simp only [Act.put, List.setIfInBounds_toArray, List.set_cons_zero, List.set_cons_succ])
            first | (refine take_on (i := 7) (v := ?_) rfl (by kernel_rfl) (by kernel_rfl) (by kernel_rfl) (fun _ _ _ h => h) rfl ?_ (by assumption) ?_; rotate_left; · (intro w' hSw; (try dsimp only at hSw); go_simp; (try with_reducible rfl))) | (refine take_off (i := 7) rfl (by kernel_rfl) (by kernel_rfl) (by kernel_rfl) (fun _ _ _ h => h) rfl (by assumption) ?_)
            (try simp only [Act.put, List.setIfInBounds_toArray, List.set_cons_zero, List.set_cons_succ])
            refine wpAnyH_ready (rs := [8]) (by kernel_rfl) (by simp) ?_
            refine AllReadyH.cons rfl (fun K hK => ?_) AllReadyH.nil
            rw [if_pos (by rfl)]
            go_simp
            refine hK.out _ _ ?_ (fun hHeld2 => ?_)
            · (try dsimp only); exact SB.mk (hHeld.2.2.alloc hHeld.2.1 _)
            clear hK K hHeld; have hHeld := hHeld2; clear hHeld2; (try simp only [Act.put, List.setIfInBounds_toArray, List.set_cons_zero, List.set_cons_succ])
            refine wpAnyH_ready (rs := [9]) (by kernel_rfl) (by simp) ?_
            refine AllReadyH.cons rfl (fun K hK => ?_) AllReadyH.nil
            rw [if_pos (by rfl)]
            go_simp
            refine hK.out _ _ ?_ (fun hHeld2 => ?_)
            · (try dsimp only); exact SB.mk (hQwd.alloc hQwd.size _)
            clear hK K hHeld; have hHeld := hHeld2; clear hHeld2; (try simp only [Act.put, List.setIfInBounds_toArray, List.set_cons_zero, List.set_cons_succ])
            first | (refine take_on (i := 10) (v := ?_) rfl (by kernel_rfl) (by kernel_rfl) (by kernel_rfl) (fun _ _ _ h => h) rfl ?_ (by assumption) ?_; rotate_left; · (intro w' hSw; (try dsimp only at hSw); go_simp; (try with_reducible rfl))) | (refine take_off (i := 10) rfl (by kernel_rfl) (by kernel_rfl) (by kernel_rfl) (fun _ _ _ h => h) rfl (by assumption) ?_)
            (try simp only [Act.put, List.setIfInBounds_toArray, List.set_cons_zero, List.set_cons_succ])
            refine wpAnyH_done (by kernel_rfl) ?_ _
            have hF := hHeld.2.2
            clear hHeld
            go_wp2_with fail
            go_meet
            refine ⟨_, Awd, cwd, Twd, _, _, rfl, rfl, by go_simp, by simp, hpwd, howd.alloc _, .inr (Nat.le_refl _), ?_, ?_, by omega, hF⟩
            all_goals (try simp only [World.size_alloc, World.size_drew])
            all_goals omega
          · rw [if_pos (by rfl)]
            go_simp
            refine hK.out _ _ ?_ (fun hHeld2 => ?_)
            · (try dsimp only); exact SB.mk (hHeld.2.2.alloc hHeld.2.1 _)
            clear hK K hHeld; have hHeld := hHeld2; clear hHeld2; (try simp only [Act.put, List.setIfInBounds_toArray, List.set_cons_zero, List.set_cons_succ])
            have Rwa := Lib.hid (Rwa.out.alloc (.cells #[.slice none 0 0] 29))
            have Rwb := Lib.hid (Rwb.out.alloc (.cells #[.slice none 0 0] 29))
            have hbk : Bk _ (wb.heap.size) 29 #[.slice none 0 0] := Bk.new wb _ _
            have hbge : w16.heap.size ≤ wb.heap.size := by omega
            refine wpAnyH_ready (rs := [4]) (by kernel_rfl) (by simp) ?_
            refine AllReadyH.cons rfl (fun K hK => ?_) (AllReadyH.nil)
            rw [if_pos (by rfl)]
            go_simp
            go_at_call 32
            refine (iAddStroke _ n0 n0 Twa _ n1 n1 xs1 N code (ptsOf S0) L _ Rwa.out Rwa_p.out Rwa_s hm0 Rwb.out LA1.out hm1 HR.out HN.out).mono ?_
            rintro e wd ⟨Awd, cwd, Twd, rfl, hpwd, howd, hbwd⟩
            have hQwd : Below w16.heap.size w16 wd := Below.next hHeld.2.2 hbwd
            have hzwd := hbwd.size
            (try simp only [World.size_alloc, World.size_drew] at hzwd)
            have hywd := hQwd.size
            (try simp only [World.size_alloc, World.size_drew] at hywd)
            have hbk := hbk.next hbwd
            refine hK.out _ _ ?_ (fun hHeld2 => ?_)
            · (try dsimp only); exact SB.mk hQwd
            clear hK K hHeld; have hHeld := hHeld2; clear hHeld2; (try simp only [Act.put, List.setIfInBounds_toArray, List.set_cons_zero, List.set_cons_succ])
            first | (refine take_on (i := 5) (v := ?_) rfl (by kernel_rfl) (by kernel_rfl) (by kernel_rfl) (fun _ _ _ h => h) rfl ?_ (by assumption) ?_; rotate_left; · (intro w' hSw; (try dsimp only at hSw); go_simp; (try with_reducible rfl))) | (refine take_off (i := 5) rfl (by kernel_rfl) (by kernel_rfl) (by kernel_rfl) (fun _ _ _ h => h) rfl (by assumption) ?_)
            (try simp only [Act.put, List.setIfInBounds_toArray, List.set_cons_zero, List.set_cons_succ])
            first | (refine take_on (i := 6) (v := ?_) rfl (by kernel_rfl) (by kernel_rfl) (by kernel_rfl) (fun _ _ _ h => h) rfl ?_ (by assumption) ?_; rotate_left; · (intro w' hSw; (try dsimp only at hSw); go_simp; (try with_reducible rfl))) | (refine take_off (i := 6) rfl (by kernel_rfl) (by kernel_rfl) (by kernel_rfl) (fun _ _ _ h => h) rfl (by assumption) ?_)
            (try simp only [Act.put, List.setIfInBounds_toArray, List.set_cons_zero, List.set_cons_succ])
            first | (refine take_on (i := 7) (v := ?_) rfl (by kernel_rfl) (by kernel_rfl) (by kernel_rfl) (fun _ _ _ h => h) rfl ?_ (by assumption) ?_; rotate_left; · (intro w' hSw; (try dsimp only at hSw); go_simp; (try with_reducible rfl))) | (refine take_off (i := 7) rfl (by kernel_rfl) (by kernel_rfl) (by kernel_rfl) (fun _ _ _ h => h) rfl (by assumption) ?_)
            (try simp only [Act.put, List.setIfInBounds_toArray, List.set_cons_zero, List.set_cons_succ])
            obtain ⟨ebk, fbk⟩ := bk1 hbk
            have lbk := hbk.lt
            refine wpAnyH_ready (rs := [9]) (by kernel_rfl) (by simp) ?_
            refine AllReadyH.cons rfl (fun K hK => ?_) AllReadyH.nil
            rw [if_pos (by rfl)]
            go_simp
            refine hK.out _ _ ?_ (fun hHeld2 => ?_)
            · (try dsimp only); exact SB.mk (hQwd.setCell (by (try simp only [World.size_alloc]); omega) _)
            clear hK K hHeld; have hHeld := hHeld2; clear hHeld2; (try simp only [Act.put, List.setIfInBounds_toArray, List.set_cons_zero, List.set_cons_succ])
            first | (refine take_on (i := 10) (v := ?_) rfl (by kernel_rfl) (by kernel_rfl) (by kernel_rfl) (fun _ _ _ h => h) rfl ?_ (by assumption) ?_; rotate_left; · (intro w' hSw; (try dsimp only at hSw); go_simp; (try with_reducible rfl))) | (refine take_off (i := 10) rfl (by kernel_rfl) (by kernel_rfl) (by kernel_rfl) (fun _ _ _ h => h) rfl (by assumption) ?_)
            (try simp only [Act.put, List.setIfInBounds_toArray, List.set_cons_zero, List.set_cons_succ])
            refine wpAnyH_done (by kernel_rfl) ?_ _
            have hF := hHeld.2.2
            clear hHeld
            go_wp2_with fail
            go_meet
            refine ⟨_, Awd, cwd, Twd, _, _, rfl, rfl, by go_simp, (bk1_put hbk).lt, hpwd, howd.keep fun k h1 h2 h3 => Below.heap_setCell _ _ _ _ (by have := hbge; (try simp only [World.size_alloc] at h1); simp only [ne_eq]; omega), ?_, ?_, ?_, by omega, hF⟩
            all_goals (try simp only [World.size_alloc, World.size_drew, World.setCell, Array.size_modify])
            all_goals omega
        · rw [if_pos (by rfl)]
          go_simp
          refine hK.out _ _ ?_ (fun hHeld2 => ?_)
          · (try dsimp only); exact SB.mk (hHeld.2.2.alloc hHeld.2.1 _)
          clear hK K hHeld; have hHeld := hHeld2; clear hHeld2; (try simp only [Act.put, List.setIfInBounds_toArray, List.set_cons_zero, List.set_cons_succ])
          have Rwa := Lib.hid (Rwa.out.alloc (.cells #[.slice none 0 0] 29))
          have hbk : Bk _ (wa.heap.size) 29 #[.slice none 0 0] := Bk.new wa _ _
          have hbge : w16.heap.size ≤ wa.heap.size := by omega
          refine wpAnyH_ready (rs := [3]) (by kernel_rfl) (by simp) ?_
          refine AllReadyH.cons rfl (fun K hK => ?_) (AllReadyH.nil)
          rw [if_pos (by rfl)]
          go_simp
          go_at_call 31
          refine (toStroke_any A1 n1 c1 xs1 _ (HA1_16.out.below (hHeld.2.2)) LA1.out hm1).mono ?_
          rintro e wb ⟨gwb, rfl, hgwb, hkwb, hbwb⟩
          have Rwb := Lib.hid (hkwb.rd (n := n1) (size := 3) (by rw [rowOf_length ptC_len, LA1.out]))
          have Rwa := Lib.hid (Rwa.out.below hbwb)
          have hQwb : Below w16.heap.size w16 wb := Below.next hHeld.2.2 hbwb
          have hzwb := hbwb.size
          (try simp only [World.size_alloc, World.size_drew] at hzwb)
          have hywb := hQwb.size
          (try simp only [World.size_alloc, World.size_drew] at hywb)
          have hbk := hbk.next hbwb
          refine hK.out _ _ ?_ (fun hHeld2 => ?_)
          · (try dsimp only); exact SB.mk hQwb
          clear hK K hHeld; have hHeld := hHeld2; clear hHeld2; (try simp only [Act.put, List.setIfInBounds_toArray, List.set_cons_zero, List.set_cons_succ])
          refine wpAnyH_ready (rs := [4]) (by kernel_rfl) (by simp) ?_
          refine AllReadyH.cons rfl (fun K hK => ?_) (AllReadyH.nil)
          rw [if_pos (by rfl)]
          go_simp
          go_at_call 32
          refine (iAddStroke _ n0 n0 Twa _ n1 n1 xs1 N code (ptsOf S0) L _ Rwa.out Rwa_p.out Rwa_s hm0 Rwb.out LA1.out hm1 HR.out HN.out).mono ?_
          rintro e wd ⟨Awd, cwd, Twd, rfl, hpwd, howd, hbwd⟩
          have hQwd : Below w16.heap.size w16 wd := Below.next hHeld.2.2 hbwd
          have hzwd := hbwd.size
          (try simp only [World.size_alloc, World.size_drew] at hzwd)
          have hywd := hQwd.size
          (try simp only [World.size_alloc, World.size_drew] at hywd)
          have hbk := hbk.next hbwd
          refine hK.out _ _ ?_ (fun hHeld2 => ?_)
          · (try dsimp only); exact SB.mk hQwd
          clear hK K hHeld; have hHeld := hHeld2; clear hHeld2; (try simp only [Act.put, List.setIfInBounds_toArray, List.set_cons_zero, List.set_cons_succ])
          first | (refine take_on (i := 5) (v := ?_) rfl (by kernel_rfl) (by kernel_rfl) (by kernel_rfl) (fun _ _ _ h => h) rfl ?_ (by assumption) ?_; rotate_left; · (intro w' hSw; (try dsimp only at hSw); go_simp; (try with_reducible rfl))) | (refine take_off (i := 5) rfl (by kernel_rfl) (by kernel_rfl) (by kernel_rfl) (fun _ _ _ h => h) rfl (by assumption) ?_)
          (try simp only [Act.put, List.setIfInBounds_toArray, List.set_cons_zero, List.set_cons_succ])
          first | (refine take_on (i := 6) (v := ?_) rfl (by kernel_rfl) (by kernel_rfl) (by kernel_rfl) (fun _ _ _ h => h) rfl ?_ (by assumption) ?_; rotate_left; · (intro w' hSw; (try dsimp only at hSw); go_simp; (try with_reducible rfl))) | (refine take_off (i := 6) rfl (by kernel_rfl) (by kernel_rfl) (by kernel_rfl) (fun _ _ _ h => h) rfl (by assumption) ?_)
          (try simp only [Act.put, List.setIfInBounds_toArray, List.set_cons_zero, List.set_cons_succ])
          first | (refine take_on (i := 7) (v := ?_) rfl (by kernel_rfl) (by kernel_rfl) (by kernel_rfl) (fun _ _ _ h => h) rfl ?_ (by assumption) ?_; rotate_left; · (intro w' hSw; (try dsimp only at hSw); go_simp; (try with_reducible rfl))) | (refine take_off (i := 7) rfl (by kernel_rfl) (by kernel_rfl) (by kernel_rfl) (fun _ _ _ h => h) rfl (by assumption) ?_)
          (try simp only [Act.put, List.setIfInBounds_toArray, List.set_cons_zero, List.set_cons_succ])
          obtain ⟨ebk, fbk⟩ := bk1 hbk
          have lbk := hbk.lt
          refine wpAnyH_ready (rs := [9]) (by kernel_rfl) (by simp) ?_
          refine AllReadyH.cons rfl (fun K hK => ?_) AllReadyH.nil
          rw [if_pos (by rfl)]
          go_simp
          refine hK.out _ _ ?_ (fun hHeld2 => ?_)
          · (try dsimp only); exact SB.mk (hQwd.setCell (by (try simp only [World.size_alloc]); omega) _)
          clear hK K hHeld; have hHeld := hHeld2; clear hHeld2; (try simp only [Act.put, List.setIfInBounds_toArray, List.set_cons_zero, List.set_cons_succ])
          first | (refine take_on (i := 10) (v := ?_) rfl (by kernel_rfl) (by kernel_rfl) (by kernel_rfl) (fun _ _ _ h => h) rfl ?_ (by assumption) ?_; rotate_left; · (intro w' hSw; (try dsimp only at hSw); go_simp; (try with_reducible rfl))) | (refine take_off (i := 10) rfl (by kernel_rfl) (by kernel_rfl) (by kernel_rfl) (fun _ _ _ h => h) rfl (by assumption) ?_)
          (try simp only [Act.put, List.setIfInBounds_toArray, List.set_cons_zero, List.set_cons_succ])
          refine wpAnyH_done (by kernel_rfl) ?_ _
          have hF := hHeld.2.2
          clear hHeld
          go_wp2_with fail
          go_meet
          refine ⟨_, Awd, cwd, Twd, _, _, rfl, rfl, by go_simp, (bk1_put hbk).lt, hpwd, howd.keep fun k h1 h2 h3 => Below.heap_setCell _ _ _ _ (by have := hbge; (try simp only [World.size_alloc] at h1); simp only [ne_eq]; omega), ?_, ?_, ?_, by omega, hF⟩
          all_goals (try simp only [World.size_alloc, World.size_drew, World.setCell, Array.size_modify])
          all_goals omega
      · rw [if_pos (by rfl)]
        go_simp
        refine hK.out _ _ ?_ (fun hHeld2 => ?_)
        · (try dsimp only); exact SB.mk (hHeld.2.2.alloc hHeld.2.1 _)
        clear hK K hHeld; have hHeld := hHeld2; clear hHeld2; (try simp only [Act.put, List.setIfInBounds_toArray, List.set_cons_zero, List.set_cons_succ])
        have hbk : Bk _ (w16.heap.size) 29 #[.slice none 0 0] := Bk.new w16.drew _ _
        have hbge : w16.heap.size ≤ w16.heap.size := by omega
        refine wpAnyH_ready (rs := [1]) (by kernel_rfl) (by simp) ?_
        refine AllReadyH.cons rfl (fun K hK => ?_) (AllReadyH.nil)
        rw [if_pos (by rfl)]
        go_simp
        go_at_call 13
        refine (toInk_any A0 n0 c0 S0 _ (HA0_16.out.below (hHeld.2.2)) hs0 hm0).mono ?_
        rintro e wa ⟨gwa, Twa, rfl, hpwa, howa, hbwa⟩
        have Rwa := Lib.hid (howa.rd (len_of hpwa LA0.out))
        have Rwa_p := Lib.hid hpwa
        have Rwa_s := each_of hpwa hs0
        have hQwa : Below w16.heap.size w16 wa := Below.next hHeld.2.2 hbwa
        have hzwa := hbwa.size
        (try simp only [World.size_alloc, World.size_drew] at hzwa)
        have hywa := hQwa.size
        (try simp only [World.size_alloc, World.size_drew] at hywa)
        have hbk := hbk.next hbwa
        refine hK.out _ _ ?_ (fun hHeld2 => ?_)
        · (try dsimp only); exact SB.mk hQwa
        clear hK K hHeld; have hHeld := hHeld2; clear hHeld2; (try simp only [Act.put, List.setIfInBounds_toArray, List.set_cons_zero, List.set_cons_succ])
        refine wpAnyH_ready (rs := [3]) (by kernel_rfl) (by simp) ?_
        refine AllReadyH.cons rfl (fun K hK => ?_) (AllReadyH.nil)
        rw [if_pos (by rfl)]
        go_simp
        go_at_call 31
        refine (toStroke_any A1 n1 c1 xs1 _ (HA1_16.out.below (hHeld.2.2)) LA1.out hm1).mono ?_
        rintro e wb ⟨gwb, rfl, hgwb, hkwb, hbwb⟩
        have Rwb := Lib.hid (hkwb.rd (n := n1) (size := 3) (by rw [rowOf_length ptC_len, LA1.out]))
        have Rwa := Lib.hid (Rwa.out.below hbwb)
        have hQwb : Below w16.heap.size w16 wb := Below.next hHeld.2.2 hbwb
        have hzwb := hbwb.size
        (try simp only [World.size_alloc, World.size_drew] at hzwb)
        have hywb := hQwb.size
        (try simp only [World.size_alloc, World.size_drew] at hywb)
        have hbk := hbk.next hbwb
        refine hK.out _ _ ?_ (fun hHeld2 => ?_)
        · (try dsimp only); exact SB.mk hQwb
        clear hK K hHeld; have hHeld := hHeld2; clear hHeld2; (try simp only [Act.put, List.setIfInBounds_toArray, List.set_cons_zero, List.set_cons_succ])
        refine wpAnyH_ready (rs := [4]) (by kernel_rfl) (by simp) ?_
        refine AllReadyH.cons rfl (fun K hK => ?_) (AllReadyH.nil)
        rw [if_pos (by rfl)]
        go_simp
        go_at_call 32
        refine (iAddStroke _ n0 n0 Twa _ n1 n1 xs1 N code (ptsOf S0) L _ Rwa.out Rwa_p.out Rwa_s hm0 Rwb.out LA1.out hm1 HR.out HN.out).mono ?_
        rintro e wd ⟨Awd, cwd, Twd, rfl, hpwd, howd, hbwd⟩
        have hQwd : Below w16.heap.size w16 wd := Below.next hHeld.2.2 hbwd
        have hzwd := hbwd.size
        (try simp only [World.size_alloc, World.size_drew] at hzwd)
        have hywd := hQwd.size
        (try simp only [World.size_alloc, World.size_drew] at hywd)
        have hbk := hbk.next hbwd
        refine hK.out _ _ ?_ (fun hHeld2 => ?_)
        · (try dsimp only); exact SB.mk hQwd
        clear hK K hHeld; have hHeld := hHeld2; clear hHeld2; (try simp only [Act.put, List.setIfInBounds_toArray, List.set_cons_zero, List.set_cons_succ])
        first | (refine take_on (i := 5) (v := ?_) rfl (by kernel_rfl) (by kernel_rfl) (by kernel_rfl) (fun _ _ _ h => h) rfl ?_ (by assumption) ?_; rotate_left; · (intro w' hSw; (try dsimp only at hSw); go_simp; (try with_reducible rfl))) | (refine take_off (i := 5) rfl (by kernel_rfl) (by kernel_rfl) (by kernel_rfl) (fun _ _ _ h => h) rfl (by assumption) ?_)
        (try simp only [Act.put, List.setIfInBounds_toArray, List.set_cons_zero, List.set_cons_succ])
        first | (refine take_on (i := 6) (v := ?_) rfl (by kernel_rfl) (by kernel_rfl) (by kernel_rfl) (fun _ _ _ h => h) rfl ?_ (by assumption) ?_; rotate_left; · (intro w' hSw; (try dsimp only at hSw); go_simp; (try with_reducible rfl))) | (refine take_off (i := 6) rfl (by kernel_rfl) (by kernel_rfl) (by kernel_rfl) (fun _ _ _ h => h) rfl (by assumption) ?_)
        (try simp only [Act.put, List.setIfInBounds_toArray, List.set_cons_zero, List.set_cons_succ])
        first | (refine take_on (i := 7) (v := ?_) rfl (by kernel_rfl) (by kernel_rfl) (by kernel_rfl) (fun _ _ _ h => h) rfl ?_ (by assumption) ?_; rotate_left; · (intro w' hSw; (try dsimp only at hSw); go_simp; (try with_reducible rfl))) | (refine take_off (i := 7) rfl (by kernel_rfl) (by kernel_rfl) (by kernel_rfl) (fun _ _ _ h => h) rfl (by assumption) ?_)
        (try simp only [Act.put, List.setIfInBounds_toArray, List.set_cons_zero, List.set_cons_succ])
        obtain ⟨ebk, fbk⟩ := bk1 hbk
        have lbk := hbk.lt
        refine wpAnyH_ready (rs := [9]) (by kernel_rfl) (by simp) ?_
        refine AllReadyH.cons rfl (fun K hK => ?_) AllReadyH.nil
        rw [if_pos (by rfl)]
        go_simp
        refine hK.out _ _ ?_ (fun hHeld2 => ?_)
        · (try dsimp only); exact SB.mk (hQwd.setCell (by (try simp only [World.size_alloc]); omega) _)
        clear hK K hHeld; have hHeld := hHeld2; clear hHeld2; (try simp only [Act.put, List.setIfInBounds_toArray, List.set_cons_zero, List.set_cons_succ])
        first | (refine take_on (i := 10) (v := ?_) rfl (by kernel_rfl) (by kernel_rfl) (by kernel_rfl) (fun _ _ _ h => h) rfl ?_ (by assumption) ?_; rotate_left; · (intro w' hSw; (try dsimp only at hSw); go_simp; (try with_reducible rfl))) | (refine take_off (i := 10) rfl (by kernel_rfl) (by kernel_rfl) (by kernel_rfl) (fun _ _ _ h => h) rfl (by assumption) ?_)
        (try simp only [Act.put, List.setIfInBounds_toArray, List.set_cons_zero, List.set_cons_succ])
        refine wpAnyH_done (by kernel_rfl) ?_ _
        have hF := hHeld.2.2
        clear hHeld
        go_wp2_with fail
        go_meet
        refine ⟨_, Awd, cwd, Twd, _, _, rfl, rfl, by go_simp, (bk1_put hbk).lt, hpwd, howd.keep fun k h1 h2 h3 => Below.heap_setCell _ _ _ _ (by have := hbge; (try simp only [World.size_alloc] at h1); simp only [ne_eq]; omega), ?_, ?_, ?_, by omega, hF⟩
        all_goals (try simp only [World.size_alloc, World.size_drew, World.setCell, Array.size_modify])
        all_goals omega
    case rest =>
      obtain ⟨w17, rfl⟩ : ∃ x, x = wc := ⟨wc, rfl⟩
      obtain ⟨b17, A17, c17, T17, lo17, hi17, rfl, rfl, hcb17, hbl17, hp17, ho17, hbd17, hlo17, hhi17, hbg17, hb17⟩ := hcut
      have hB17 : Below w16.heap.size w16 w17 := Below.next (by go_grown) hb17
      have hT17 : Below w.heap.size w w17 := Below.next hT16 hB17
      have hz17 := hb17.size
      (try simp only [World.size_alloc, World.size_drew] at hz17)
      have bx0_l17 : w.heap.size < w17.heap.size := Nat.lt_of_lt_of_le bx0_l16 hB17.size
      have bx0_0_17 : w17.cell? ⟨w.heap.size, 0, none⟩ = some (.slice A0 n0 c0) := (hB17.cell (p := ⟨w.heap.size, 0, none⟩) bx0_l16).trans bx0_0_16
      have bx1_l17 : w.heap.size + 1 < w17.heap.size := Nat.lt_of_lt_of_le bx1_l16 hB17.size
      have bx1_0_17 : w17.cell? ⟨w.heap.size + 1, 0, none⟩ = some (.slice A1 n1 c1) := (hB17.cell (p := ⟨w.heap.size + 1, 0, none⟩) bx1_l16).trans bx1_0_16
      have bW0_l17 : b3 < w17.heap.size := Nat.lt_of_lt_of_le bW0_l16 hB17.size
      have bW0_0_17 : w17.cell? ⟨b3, 0, none⟩ = some (.slice A3 N c3) := (hB17.cell (p := ⟨b3, 0, none⟩) bW0_l16).trans bW0_0_16
      have bG0_l17 : w6.heap.size < w17.heap.size := Nat.lt_of_lt_of_le bG0_l16 hB17.size
      have bG0_0_17 : w17.cell? ⟨w6.heap.size, 0, none⟩ = some (.slice A6 N c6) := (hB17.cell (p := ⟨w6.heap.size, 0, none⟩) bG0_l16).trans bG0_0_16
      clear bx0_l16 bx0_0_16 bx1_l16 bx1_0_16 bW0_l16 bW0_0_16 bG0_l16 bG0_0_16
      have W0_17 := Lib.hid (W0_16.out.next hB17)
      have G0_17 := Lib.hid (G0_16.out.next hB17)
      clear W0_16 G0_16
      have HA0_17 := Lib.hid (HA0_0.out.below hT17)
      clear HA0_16
      have HA1_17 := Lib.hid (HA1_0.out.below hT17)
      clear HA1_16
      have H0_17 := ho17
      clear ho17
      have H0_p := hp17
      have H0_l := Lib.hid (small_len hp17.out HN.out)
      have H0_s := small_big HSM.out hp17.out
      clear hp17
      have bH0_l17 := hbl17
      have bH0_0_17 := hcb17
      go_wp2_with fail
      refine (eqInk_same _ _ N _ _ T17 T3 _ (by first | exact (H0_17.out.rd H0_l.out) | exact (H0_17.out.rd H0_l.out).alloc _ | exact ((H0_17.out.rd H0_l.out).alloc _).alloc _ | exact (((H0_17.out.rd H0_l.out).alloc _).alloc _).alloc _ | exact ((((H0_17.out.rd H0_l.out).alloc _).alloc _).alloc _).alloc _ | exact (H0_17.out.rd H0_l.out).drew | exact ((H0_17.out.rd H0_l.out).drew).alloc _) (by first | exact (W0_17.out.rd W0_l.out) | exact (W0_17.out.rd W0_l.out).alloc _ | exact ((W0_17.out.rd W0_l.out).alloc _).alloc _ | exact (((W0_17.out.rd W0_l.out).alloc _).alloc _).alloc _ | exact ((((W0_17.out.rd W0_l.out).alloc _).alloc _).alloc _).alloc _ | exact (W0_17.out.rd W0_l.out).drew | exact ((W0_17.out.rd W0_l.out).drew).alloc _) (H0_p.out.trans W0_p.out.symm) H0_s hN).mono ?_
      rintro e w18 ⟨rfl, hb18⟩
      have hB18 : Below w17.heap.size w17 w18 := Below.next (by go_grown) hb18
      have hT18 : Below w.heap.size w w18 := Below.next hT17 hB18
      have hz18 := hb18.size
      (try simp only [World.size_alloc, World.size_drew] at hz18)
      have bx0_l18 : w.heap.size < w18.heap.size := Nat.lt_of_lt_of_le bx0_l17 hB18.size
      have bx0_0_18 : w18.cell? ⟨w.heap.size, 0, none⟩ = some (.slice A0 n0 c0) := (hB18.cell (p := ⟨w.heap.size, 0, none⟩) bx0_l17).trans bx0_0_17
      have bx1_l18 : w.heap.size + 1 < w18.heap.size := Nat.lt_of_lt_of_le bx1_l17 hB18.size
      have bx1_0_18 : w18.cell? ⟨w.heap.size + 1, 0, none⟩ = some (.slice A1 n1 c1) := (hB18.cell (p := ⟨w.heap.size + 1, 0, none⟩) bx1_l17).trans bx1_0_17
      have bW0_l18 : b3 < w18.heap.size := Nat.lt_of_lt_of_le bW0_l17 hB18.size
      have bW0_0_18 : w18.cell? ⟨b3, 0, none⟩ = some (.slice A3 N c3) := (hB18.cell (p := ⟨b3, 0, none⟩) bW0_l17).trans bW0_0_17
      have bG0_l18 : w6.heap.size < w18.heap.size := Nat.lt_of_lt_of_le bG0_l17 hB18.size
      have bG0_0_18 : w18.cell? ⟨w6.heap.size, 0, none⟩ = some (.slice A6 N c6) := (hB18.cell (p := ⟨w6.heap.size, 0, none⟩) bG0_l17).trans bG0_0_17
      have bH0_l18 : b17 < w18.heap.size := Nat.lt_of_lt_of_le bH0_l17 hB18.size
      have bH0_0_18 : w18.cell? ⟨b17, 0, none⟩ = some (.slice A17 N c17) := (hB18.cell (p := ⟨b17, 0, none⟩) bH0_l17).trans bH0_0_17
      clear bx0_l17 bx0_0_17 bx1_l17 bx1_0_17 bW0_l17 bW0_0_17 bG0_l17 bG0_0_17 bH0_l17 bH0_0_17
      have W0_18 := Lib.hid (W0_17.out.next hB18)
      have G0_18 := Lib.hid (G0_17.out.next hB18)
      have H0_18 := Lib.hid (H0_17.out.next hB18)
      clear W0_17 G0_17 H0_17
      have HA0_18 := Lib.hid (HA0_0.out.below hT18)
      clear HA0_17
      have HA1_18 := Lib.hid (HA1_0.out.below hT18)
      clear HA1_17
      go_wp2_with fail
      refine (heldInk_L _ N _ mm T6 L _ (by first | exact (G0_18.out.rdM G0_l.out) | exact (G0_18.out.rdM G0_l.out).alloc _ | exact ((G0_18.out.rdM G0_l.out).alloc _).alloc _ | exact (((G0_18.out.rdM G0_l.out).alloc _).alloc _).alloc _ | exact ((((G0_18.out.rdM G0_l.out).alloc _).alloc _).alloc _).alloc _ | exact (G0_18.out.rdM G0_l.out).drew | exact ((G0_18.out.rdM G0_l.out).drew).alloc _) G0_p.out HN.out HSM.out HMM.out).mono ?_
      rintro e w19 ⟨rfl, hb19⟩
      have hB19 : Below w18.heap.size w18 w19 := Below.next (by go_grown) hb19
      have hT19 : Below w.heap.size w w19 := Below.next hT18 hB19
      have hz19 := hb19.size
      (try simp only [World.size_alloc, World.size_drew] at hz19)
      have bx0_l19 : w.heap.size < w19.heap.size := Nat.lt_of_lt_of_le bx0_l18 hB19.size
      have bx0_0_19 : w19.cell? ⟨w.heap.size, 0, none⟩ = some (.slice A0 n0 c0) := (hB19.cell (p := ⟨w.heap.size, 0, none⟩) bx0_l18).trans bx0_0_18
      have bx1_l19 : w.heap.size + 1 < w19.heap.size := Nat.lt_of_lt_of_le bx1_l18 hB19.size
      have bx1_0_19 : w19.cell? ⟨w.heap.size + 1, 0, none⟩ = some (.slice A1 n1 c1) := (hB19.cell (p := ⟨w.heap.size + 1, 0, none⟩) bx1_l18).trans bx1_0_18
      have bW0_l19 : b3 < w19.heap.size := Nat.lt_of_lt_of_le bW0_l18 hB19.size
      have bW0_0_19 : w19.cell? ⟨b3, 0, none⟩ = some (.slice A3 N c3) := (hB19.cell (p := ⟨b3, 0, none⟩) bW0_l18).trans bW0_0_18
      have bG0_l19 : w6.heap.size < w19.heap.size := Nat.lt_of_lt_of_le bG0_l18 hB19.size
      have bG0_0_19 : w19.cell? ⟨w6.heap.size, 0, none⟩ = some (.slice A6 N c6) := (hB19.cell (p := ⟨w6.heap.size, 0, none⟩) bG0_l18).trans bG0_0_18
      have bH0_l19 : b17 < w19.heap.size := Nat.lt_of_lt_of_le bH0_l18 hB19.size
      have bH0_0_19 : w19.cell? ⟨b17, 0, none⟩ = some (.slice A17 N c17) := (hB19.cell (p := ⟨b17, 0, none⟩) bH0_l18).trans bH0_0_18
      clear bx0_l18 bx0_0_18 bx1_l18 bx1_0_18 bW0_l18 bW0_0_18 bG0_l18 bG0_0_18 bH0_l18 bH0_0_18
      have W0_19 := Lib.hid (W0_18.out.next hB19)
      have G0_19 := Lib.hid (G0_18.out.next hB19)
      have H0_19 := Lib.hid (H0_18.out.next hB19)
      clear W0_18 G0_18 H0_18
      have HA0_19 := Lib.hid (HA0_0.out.below hT19)
      clear HA0_18
      have HA1_19 := Lib.hid (HA1_0.out.below hT19)
      clear HA1_18
      go_wp2_with fail
      go_ret
      exact ⟨rfl, by go_grown⟩

theorem law_AddStroke {w : World} (s0 : Ik) (hs0 : s0.good w) (s1 : St) (hs1 : s1.good w) (_ : World) :
    Calls Try.prog 9 #[.agg #[.slice s0.A s0.l.length s0.c], .agg #[.slice s1.A s1.l.length s1.c]] w (Yes w) :=
  AddStroke_walk s0.A _ _ s0.l s1.A _ _ _ hs0.2.2.1 (Nat.le_trans hs0.1 hs0.2.1) (Ik.caps hs0) hs1.2.2 rfl (Nat.le_trans hs1.1 hs1.2.1)
end Go.Proofs.Ytnmmnikoogjhoaa
