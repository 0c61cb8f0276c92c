/-
  A column read from bits: the reference's walk.
-/
import Derived.Test.YtinlhigpmchiaaaGreatDoorDcP
namespace Go.Proofs.YtinlhigpmchiaaaGreatDoor
set_option linter.unusedSimpArgs false
set_option linter.unusedVariables false
set_option maxRecDepth 20000
open Go.RowKit
open Go.ChangeShapes Go.WideShapes Go.Deep Go.Joins

theorem fromV_true {l V : List Int} (h : fromV l = (V, true)) : fromTo l l.length = some V := by
  unfold fromV at h
  split at h
  · rename_i out h1
    rw [h1, (Prod.mk.inj h).1]
  · exact absurd (Prod.mk.inj h).2 (by decide)
theorem fromV_false {l V : List Int} (h : fromV l = (V, false)) : fromTo l l.length = none := by
  unfold fromV at h
  split at h
  · exact absurd (Prod.mk.inj h).2 (by decide)
  · assumption
set_option maxHeartbeats 16000000 in
theorem scol_any (b : Nat) (s : ByteArray) (a m : Nat) (f : Bool) (w : World) (hb : Bk w b 34 #[.string s, .int .i64 (a : Int), .bool f]) (hs : s.size ≤ 8388608) (hall : Hid (s.data.toList.all isBit = true)) (ha : a ≤ s.size) (hm : m ≤ 255) :
    Calls Tryz.prog 26 #[.pointer (some ⟨b, 0, none⟩), .int .i64 (m : Int)] w fun e w' => ∃ (A2 : Option Addr) (c2 N : Nat) (L : List Int) (t : Nat) (g : Bool), e = .returned (.slice A2 N c2) ∧ L.length = N ∧ Own iC 2 1 w' w.heap.size (.slice A2 N c2) L ∧ Bk w' b 34 #[.string s, .int .i64 (t : Int), .bool g] ∧ t ≤ s.size ∧ Apart b w.heap.size w w' ∧ Got (colS s a m) f L t g := by
  have hltw := hb.lt
  have HN := snum_any b s a 4 f w hb hs hall ha (by omega)
  clear hb
  go_enter Tryz.func26, Tryz.ntmps26
  go_wp2_with fail
  refine HN.mono ?_
  rintro e w1 ⟨v, p, g, rfl, hb1, hv, hp, hA1, hG1⟩
  have HB1 := Lib.hid hb1
  have HA1 := Lib.hid hA1
  have HG1 := Lib.hid hG1
  have hz1 := hA1.size
  have hlt1 := hb1.lt
  clear HN hb1 hA1 hG1
  cases g
  · obtain ⟨rfl, hnum⟩ := HG1.out.good
    have hv16 : v < 2 ^ 4 := (numO_is hall.out hnum).1
    have HNUM := Lib.hid hnum
    clear hnum HG1
    go_wp2_with fail
    go_loopw [6, 7] (fun u i wr => ∃ (j q : Nat) (l : List Int), j ≤ m ∧ i = .int .i64 (j : Int) ∧ Hid (l.length = j) ∧ Hid (ricesO s v p j = some (l, q)) ∧ q ≤ s.size ∧ Own iC 2 1 wr w1.heap.size u l ∧ Bk wr b 34 #[.string s, .int .i64 (q : Int), .bool false] ∧ Hid (Apart b w1.heap.size w1 wr) ∧ Hid (v ≤ 12 ∨ j = 0)) (fun _ i _ => m - (intOf i).toNat)
    case atStart => exact ⟨0, p, [], Nat.zero_le _, rfl, rfl, rfl, hp, Own.of_bk (l := []) (Bk.new w1 #[] 2) iC_len (by decide) (Nat.le_refl _), HB1.out.alloc _, Apart.of_below ((Below.refl _ _).alloc (Nat.le_refl _) _), .inr rfl⟩
    case round =>
      obtain ⟨j, q, l, hj, rfl, HLJ, HRI, hq, hown, hbk, HAP, HJ⟩ := hrel
      have hza := HAP.out.size
      have hltr := hbk.lt
      have HBK := Lib.hid hbk
      have HRP : Hid (restP l) := (rices_is hall.out (show v ≤ 15 by omega) hp HRI.out).2.2.2
      obtain ⟨A2, c9, hu, _, _, _⟩ := hown.rd
      rw [HLJ.out] at hu
      subst hu
      have HO := Lib.hid hown
      obtain ⟨⟨c0, f0⟩, ⟨c1, f1⟩, c2, f2⟩ := bk3 hbk
      clear hbk hown
      by_cases hlt : j < m
      · have hji : (j : Int) < (m : Int) := by omega
        rcases rice_cases s hall.out v q (by omega) hq with ⟨x, r, hr1, hr2, _, hr3, hr4, hr5⟩ | ⟨cd, hr1, hr2, hr3⟩
        · by_cases hk : v ≤ 12
          · have hk2 : ¬ (v : Int) > 12 := by omega
            have hk3 : decide ((v : Int) > 12) = false := decide_eq_false hk2
            have HRR : Hid (∀ w, Calls Tryz.prog 50 #[.string s, .int .i64 (q : Int), .int .i64 (v : Int)] w fun e w' => e = .returned (.tuple #[.int .i64 x, .int .i64 (r : Int), .int .i64 0]) ∧ Below w.heap.size w w') := fun w => by
              have h := l04Read_any s hs hall.out q v _ hq (by omega) (onesN_at s hq) w
              rw [hr2] at h
              exact h
            have HNX : Hid (ricesO s v p (j + 1) = some (l ++ [x], r)) := rices_good HRI.out hr1
            clear hr1 hr2
            go_wp2_with fail
            refine wp_region_held_drew (S := (fun w' => (∀ kb ko, kb < wr.heap.size → w'.cell? ⟨kb, ko, none⟩ = wr.cell? ⟨kb, ko, none⟩) ∧ wr.heap.size ≤ w'.heap.size ∧ Below wr.heap.size wr w')) (by kernel_rfl) ?_ (fun hHeld => ?_)
            · (try dsimp only); (first | exact SB.mk hkB | exact SB.mk ((Below.refl _ _).drew) | (refine SB.mk ?_; go_grown; done) | (go_split_ands; refine SB.mk (Below.drew ?_); assumption) | (go_split_ands; refine SB.mk ?_; go_grown; done))
            first | (refine take_on (i := 0) (v := ?_) rfl (by kernel_rfl) (by kernel_rfl) (by kernel_rfl) (fun _ _ _ h => h) rfl ?_ (by assumption) ?_; rotate_left; · (intro w' hSw; (try dsimp only at hSw); go_simp; (try with_reducible rfl))) | (refine take_off (i := 0) rfl (by kernel_rfl) (by kernel_rfl) (by kernel_rfl) (fun _ _ _ h => h) rfl (by assumption) ?_)
            (try simp only [Act.put, List.setIfInBounds_toArray, List.set_cons_zero, List.set_cons_succ])
            first | (refine take_on (i := 1) (v := ?_) rfl (by kernel_rfl) (by kernel_rfl) (by kernel_rfl) (fun _ _ _ h => h) rfl ?_ (by assumption) ?_; rotate_left; · (intro w' hSw; (try dsimp only at hSw); go_simp; (try with_reducible rfl))) | (refine take_off (i := 1) rfl (by kernel_rfl) (by kernel_rfl) (by kernel_rfl) (fun _ _ _ h => h) rfl (by assumption) ?_)
            (try simp only [Act.put, List.setIfInBounds_toArray, List.set_cons_zero, List.set_cons_succ])
            first | (refine take_on (i := 2) (v := ?_) rfl (by kernel_rfl) (by kernel_rfl) (by kernel_rfl) (fun _ _ _ h => h) rfl ?_ (by assumption) ?_; rotate_left; · (intro w' hSw; (try dsimp only at hSw); go_simp; (try with_reducible rfl))) | (refine take_off (i := 2) rfl (by kernel_rfl) (by kernel_rfl) (by kernel_rfl) (fun _ _ _ h => h) rfl (by assumption) ?_)
            (try simp only [Act.put, List.setIfInBounds_toArray, List.set_cons_zero, List.set_cons_succ])
            first | (refine take_on (i := 3) (v := ?_) rfl (by kernel_rfl) (by kernel_rfl) (by kernel_rfl) (fun _ _ _ h => h) rfl ?_ (by assumption) ?_; rotate_left; · (intro w' hSw; (try dsimp only at hSw); go_simp; (try with_reducible rfl))) | (refine take_off (i := 3) rfl (by kernel_rfl) (by kernel_rfl) (by kernel_rfl) (fun _ _ _ h => h) rfl (by assumption) ?_)
            (try simp only [Act.put, List.setIfInBounds_toArray, List.set_cons_zero, List.set_cons_succ])
            first | (refine take_on (i := 4) (v := ?_) rfl (by kernel_rfl) (by kernel_rfl) (by kernel_rfl) (fun _ _ _ h => h) rfl ?_ (by assumption) ?_; rotate_left; · (intro w' hSw; (try dsimp only at hSw); go_simp; (try with_reducible rfl))) | (refine take_off (i := 4) rfl (by kernel_rfl) (by kernel_rfl) (by kernel_rfl) (fun _ _ _ h => h) rfl (by assumption) ?_)
            (try simp only [Act.put, List.setIfInBounds_toArray, List.set_cons_zero, List.set_cons_succ])
            first | (refine take_on (i := 5) (v := ?_) rfl (by kernel_rfl) (by kernel_rfl) (by kernel_rfl) (fun _ _ _ h => h) rfl ?_ (by assumption) ?_; rotate_left; · (intro w' hSw; (try dsimp only at hSw); go_simp; (try with_reducible rfl))) | (refine take_off (i := 5) rfl (by kernel_rfl) (by kernel_rfl) (by kernel_rfl) (fun _ _ _ h => h) rfl (by assumption) ?_)
            (try simp only [Act.put, List.setIfInBounds_toArray, List.set_cons_zero, List.set_cons_succ])
            first | (refine take_on (i := 6) (v := ?_) rfl (by kernel_rfl) (by kernel_rfl) (by kernel_rfl) (fun _ _ _ h => h) rfl ?_ (by assumption) ?_; rotate_left; · (intro w' hSw; (try dsimp only at hSw); go_simp; (try with_reducible rfl))) | (refine take_off (i := 6) rfl (by kernel_rfl) (by kernel_rfl) (by kernel_rfl) (fun _ _ _ h => h) rfl (by assumption) ?_)
            (try simp only [Act.put, List.setIfInBounds_toArray, List.set_cons_zero, List.set_cons_succ])
            first | (refine take_on (i := 7) (v := ?_) rfl (by kernel_rfl) (by kernel_rfl) (by kernel_rfl) (fun _ _ _ h => h) rfl ?_ (by assumption) ?_; rotate_left; · (intro w' hSw; (try dsimp only at hSw); go_simp; (try with_reducible rfl))) | (refine take_off (i := 7) rfl (by kernel_rfl) (by kernel_rfl) (by kernel_rfl) (fun _ _ _ h => h) rfl (by assumption) ?_)
            (try simp only [Act.put, List.setIfInBounds_toArray, List.set_cons_zero, List.set_cons_succ])
            first | (refine take_on (i := 8) (v := ?_) rfl (by kernel_rfl) (by kernel_rfl) (by kernel_rfl) (fun _ _ _ h => h) rfl ?_ (by assumption) ?_; rotate_left; · (intro w' hSw; (try dsimp only at hSw); go_simp; (try with_reducible rfl))) | (refine take_off (i := 8) rfl (by kernel_rfl) (by kernel_rfl) (by kernel_rfl) (fun _ _ _ h => h) rfl (by assumption) ?_)
            (try simp only [Act.put, List.setIfInBounds_toArray, List.set_cons_zero, List.set_cons_succ])
            refine wpAnyH_ready (rs := [9]) (by kernel_rfl) (by simp) ?_
            refine AllReadyH.cons rfl (fun K hK => ?_) AllReadyH.nil
            rw [if_pos (by rfl)]
            go_simp
            go_at_call 50
            refine (HRR.out _).mono ?_
            rintro e w4 ⟨rfl, hb4⟩
            have hB4 : Below wr.heap.size wr w4 := Below.next (by go_grown) hb4
            refine hK.out _ _ ?_ (fun hHeld2 => ?_)
            · (try dsimp only); exact SB.mk hB4
            clear hK K hHeld; have hHeld := hHeld2; clear hHeld2; (try simp only [Act.put, List.setIfInBounds_toArray, List.set_cons_zero, List.set_cons_succ])
            first | (refine take_on (i := 10) (v := ?_) rfl (by kernel_rfl) (by kernel_rfl) (by kernel_rfl) (fun _ _ _ h => h) rfl ?_ (by assumption) ?_; rotate_left; · (intro w' hSw; (try dsimp only at hSw); go_simp; (try with_reducible rfl))) | (refine take_off (i := 10) rfl (by kernel_rfl) (by kernel_rfl) (by kernel_rfl) (fun _ _ _ h => h) rfl (by assumption) ?_)
            (try simp only [Act.put, List.setIfInBounds_toArray, List.set_cons_zero, List.set_cons_succ])
            first | (refine take_on (i := 11) (v := ?_) rfl (by kernel_rfl) (by kernel_rfl) (by kernel_rfl) (fun _ _ _ h => h) rfl ?_ (by assumption) ?_; rotate_left; · (intro w' hSw; (try dsimp only at hSw); go_simp; (try with_reducible rfl))) | (refine take_off (i := 11) rfl (by kernel_rfl) (by kernel_rfl) (by kernel_rfl) (fun _ _ _ h => h) rfl (by assumption) ?_)
            (try simp only [Act.put, List.setIfInBounds_toArray, List.set_cons_zero, List.set_cons_succ])
            first | (refine take_on (i := 12) (v := ?_) rfl (by kernel_rfl) (by kernel_rfl) (by kernel_rfl) (fun _ _ _ h => h) rfl ?_ (by assumption) ?_; rotate_left; · (intro w' hSw; (try dsimp only at hSw); go_simp; (try with_reducible rfl))) | (refine take_off (i := 12) rfl (by kernel_rfl) (by kernel_rfl) (by kernel_rfl) (fun _ _ _ h => h) rfl (by assumption) ?_)
            (try simp only [Act.put, List.setIfInBounds_toArray, List.set_cons_zero, List.set_cons_succ])
            first | (refine take_on (i := 13) (v := ?_) rfl (by kernel_rfl) (by kernel_rfl) (by kernel_rfl) (fun _ _ _ h => h) rfl ?_ (by assumption) ?_; rotate_left; · (intro w' hSw; (try dsimp only at hSw); go_simp; (try with_reducible rfl))) | (refine take_off (i := 13) rfl (by kernel_rfl) (by kernel_rfl) (by kernel_rfl) (fun _ _ _ h => h) rfl (by assumption) ?_)
            (try simp only [Act.put, List.setIfInBounds_toArray, List.set_cons_zero, List.set_cons_succ])
            first | (refine take_on (i := 14) (v := ?_) rfl (by kernel_rfl) (by kernel_rfl) (by kernel_rfl) (fun _ _ _ h => h) rfl ?_ (by assumption) ?_; rotate_left; · (intro w' hSw; (try dsimp only at hSw); go_simp; (try with_reducible rfl))) | (refine take_off (i := 14) rfl (by kernel_rfl) (by kernel_rfl) (by kernel_rfl) (fun _ _ _ h => h) rfl (by assumption) ?_)
            (try simp only [Act.put, List.setIfInBounds_toArray, List.set_cons_zero, List.set_cons_succ])
            first | (refine take_on (i := 15) (v := ?_) rfl (by kernel_rfl) (by kernel_rfl) (by kernel_rfl) (fun _ _ _ h => h) rfl ?_ (by assumption) ?_; rotate_left; · (intro w' hSw; (try dsimp only at hSw); go_simp; (try with_reducible rfl))) | (refine take_off (i := 15) rfl (by kernel_rfl) (by kernel_rfl) (by kernel_rfl) (fun _ _ _ h => h) rfl (by assumption) ?_)
            (try simp only [Act.put, List.setIfInBounds_toArray, List.set_cons_zero, List.set_cons_succ])
            first | (refine take_on (i := 16) (v := ?_) rfl (by kernel_rfl) (by kernel_rfl) (by kernel_rfl) (fun _ _ _ h => h) rfl ?_ (by assumption) ?_; rotate_left; · (intro w' hSw; (try dsimp only at hSw); go_simp; (try with_reducible rfl))) | (refine take_off (i := 16) rfl (by kernel_rfl) (by kernel_rfl) (by kernel_rfl) (fun _ _ _ h => h) rfl (by assumption) ?_)
            (try simp only [Act.put, List.setIfInBounds_toArray, List.set_cons_zero, List.set_cons_succ])
            refine wpAnyH_done (by kernel_rfl) ?_ _
            clear hHeld
            have hz4 := hB4.size
            have HO4 := Lib.hid (HO.out.next hB4)
            have HB4 := Lib.hid (HBK.out.next hB4)
            have HAP4 : Hid (Apart b w.heap.size w w4) := (HA1.out.trans (HAP.out.mono hz1)).then hB4 (by omega)
            clear HO HBK c0 c1 c2 f0 f1 f2
            obtain ⟨⟨c0, f0⟩, ⟨c1, f1⟩, c2, f2⟩ := bk3 HB4.out
            have hlt4 := HB4.out.lt
            go_wp2_with (at_builtin; refine list_push elem_int (by rfl) (.tmp 51) (.tmp 53) 55 (by rfl) Tryz.underlying55 w1.heap.size _ l x (by rfl) (HO4.out.alloc _) j HLJ.out w4.heap.size 1 (by rfl) (fun i u hu => by rw [(Bk.new w4 #[.int .i64 x] 2).cell i]; simpa [iC] using hu) (by unfold maxLen; omega) (by omega) (by simp only [World.size_alloc]; omega) ?_; intro g5 cap5 w5 hown5 hgrow5 hat5 hlt5 hkeep5; have hbk5 : Bk w5 b 34 #[.string s, .int .i64 (q : Int), .bool false] := (hgrow5.block b (by simp only [World.size_alloc]; omega) (fun e => by have h2 := (HO4.out.lt b e.symm).1; omega)).trans (HB4.out.alloc _); obtain ⟨⟨d0, k0⟩, ⟨d1, k1⟩, d2, k2⟩ := bk3 hbk5; have hlt5b := hbk5.lt)
            have hz5 := hgrow5.size
            simp only [World.size_alloc] at hz5
            go_roundw
            case rel =>
              refine ⟨j + 1, r, l ++ [x], hlt, by go_num, by simp [Hid, HLJ.out], HNX, hr3, hown5.setCell _ _ (fun k hk => by have h1 := (hown5.lt k hk).1; simp only [ne_eq]; omega), hbk5.put 1 _, ?_, .inl hk⟩
              exact (((HAP.out.then hB4 hza).then ((Below.refl _ _).alloc (Nat.le_refl _) _) (by omega)).grow hgrow5 (by simp only [World.size_alloc]; omega) (fun k hk => (HO4.out.lt k hk).1)).set _ _
            case measure => (simp [intOf]; try omega)
          · have hk2 : (v : Int) > 12 := by omega
            have HNO : Hid (colS s a m = none) := colS_k HNUM.out (by omega)
            have HRR : Hid (∀ w, Calls Tryz.prog 50 #[.string s, .int .i64 (q : Int), .int .i64 (v : Int)] w fun e w' => e = .returned (.tuple #[.int .i64 x, .int .i64 (r : Int), .int .i64 0]) ∧ Below w.heap.size w w') := fun w => by
              have h := l04Read_any s hs hall.out q v _ hq (by omega) (onesN_at s hq) w
              rw [hr2] at h
              exact h
            clear hr1 hr2
            go_wp2_with fail
            refine wp_region_held_drew (S := (fun w' => (∀ kb ko, kb < wr.heap.size → w'.cell? ⟨kb, ko, none⟩ = wr.cell? ⟨kb, ko, none⟩) ∧ wr.heap.size ≤ w'.heap.size ∧ Below wr.heap.size wr w')) (by kernel_rfl) ?_ (fun hHeld => ?_)
            · (try dsimp only); (first | exact SB.mk hkB | exact SB.mk ((Below.refl _ _).drew) | (refine SB.mk ?_; go_grown; done) | (go_split_ands; refine SB.mk (Below.drew ?_); assumption) | (go_split_ands; refine SB.mk ?_; go_grown; done))
            first | (refine take_on (i := 0) (v := ?_) rfl (by kernel_rfl) (by kernel_rfl) (by kernel_rfl) (fun _ _ _ h => h) rfl ?_ (by assumption) ?_; rotate_left; · (intro w' hSw; (try dsimp only at hSw); go_simp; (try with_reducible rfl))) | (refine take_off (i := 0) rfl (by kernel_rfl) (by kernel_rfl) (by kernel_rfl) (fun _ _ _ h => h) rfl (by assumption) ?_)
            (try simp only [Act.put, List.setIfInBounds_toArray, List.set_cons_zero, List.set_cons_succ])
            first | (refine take_on (i := 1) (v := ?_) rfl (by kernel_rfl) (by kernel_rfl) (by kernel_rfl) (fun _ _ _ h => h) rfl ?_ (by assumption) ?_; rotate_left; · (intro w' hSw; (try dsimp only at hSw); go_simp; (try with_reducible rfl))) | (refine take_off (i := 1) rfl (by kernel_rfl) (by kernel_rfl) (by kernel_rfl) (fun _ _ _ h => h) rfl (by assumption) ?_)
            (try simp only [Act.put, List.setIfInBounds_toArray, List.set_cons_zero, List.set_cons_succ])
            first | (refine take_on (i := 2) (v := ?_) rfl (by kernel_rfl) (by kernel_rfl) (by kernel_rfl) (fun _ _ _ h => h) rfl ?_ (by assumption) ?_; rotate_left; · (intro w' hSw; (try dsimp only at hSw); go_simp; (try with_reducible rfl))) | (refine take_off (i := 2) rfl (by kernel_rfl) (by kernel_rfl) (by kernel_rfl) (fun _ _ _ h => h) rfl (by assumption) ?_)
            (try simp only [Act.put, List.setIfInBounds_toArray, List.set_cons_zero, List.set_cons_succ])
            first | (refine take_on (i := 3) (v := ?_) rfl (by kernel_rfl) (by kernel_rfl) (by kernel_rfl) (fun _ _ _ h => h) rfl ?_ (by assumption) ?_; rotate_left; · (intro w' hSw; (try dsimp only at hSw); go_simp; (try with_reducible rfl))) | (refine take_off (i := 3) rfl (by kernel_rfl) (by kernel_rfl) (by kernel_rfl) (fun _ _ _ h => h) rfl (by assumption) ?_)
            (try simp only [Act.put, List.setIfInBounds_toArray, List.set_cons_zero, List.set_cons_succ])
            first | (refine take_on (i := 4) (v := ?_) rfl (by kernel_rfl) (by kernel_rfl) (by kernel_rfl) (fun _ _ _ h => h) rfl ?_ (by assumption) ?_; rotate_left; · (intro w' hSw; (try dsimp only at hSw); go_simp; (try with_reducible rfl))) | (refine take_off (i := 4) rfl (by kernel_rfl) (by kernel_rfl) (by kernel_rfl) (fun _ _ _ h => h) rfl (by assumption) ?_)
            (try simp only [Act.put, List.setIfInBounds_toArray, List.set_cons_zero, List.set_cons_succ])
            first | (refine take_on (i := 5) (v := ?_) rfl (by kernel_rfl) (by kernel_rfl) (by kernel_rfl) (fun _ _ _ h => h) rfl ?_ (by assumption) ?_; rotate_left; · (intro w' hSw; (try dsimp only at hSw); go_simp; (try with_reducible rfl))) | (refine take_off (i := 5) rfl (by kernel_rfl) (by kernel_rfl) (by kernel_rfl) (fun _ _ _ h => h) rfl (by assumption) ?_)
            (try simp only [Act.put, List.setIfInBounds_toArray, List.set_cons_zero, List.set_cons_succ])
            first | (refine take_on (i := 6) (v := ?_) rfl (by kernel_rfl) (by kernel_rfl) (by kernel_rfl) (fun _ _ _ h => h) rfl ?_ (by assumption) ?_; rotate_left; · (intro w' hSw; (try dsimp only at hSw); go_simp; (try with_reducible rfl))) | (refine take_off (i := 6) rfl (by kernel_rfl) (by kernel_rfl) (by kernel_rfl) (fun _ _ _ h => h) rfl (by assumption) ?_)
            (try simp only [Act.put, List.setIfInBounds_toArray, List.set_cons_zero, List.set_cons_succ])
            first | (refine take_on (i := 7) (v := ?_) rfl (by kernel_rfl) (by kernel_rfl) (by kernel_rfl) (fun _ _ _ h => h) rfl ?_ (by assumption) ?_; rotate_left; · (intro w' hSw; (try dsimp only at hSw); go_simp; (try with_reducible rfl))) | (refine take_off (i := 7) rfl (by kernel_rfl) (by kernel_rfl) (by kernel_rfl) (fun _ _ _ h => h) rfl (by assumption) ?_)
            (try simp only [Act.put, List.setIfInBounds_toArray, List.set_cons_zero, List.set_cons_succ])
            first | (refine take_on (i := 8) (v := ?_) rfl (by kernel_rfl) (by kernel_rfl) (by kernel_rfl) (fun _ _ _ h => h) rfl ?_ (by assumption) ?_; rotate_left; · (intro w' hSw; (try dsimp only at hSw); go_simp; (try with_reducible rfl))) | (refine take_off (i := 8) rfl (by kernel_rfl) (by kernel_rfl) (by kernel_rfl) (fun _ _ _ h => h) rfl (by assumption) ?_)
            (try simp only [Act.put, List.setIfInBounds_toArray, List.set_cons_zero, List.set_cons_succ])
            refine wpAnyH_ready (rs := [9]) (by kernel_rfl) (by simp) ?_
            refine AllReadyH.cons rfl (fun K hK => ?_) AllReadyH.nil
            rw [if_pos (by rfl)]
            go_simp
            go_at_call 50
            refine (HRR.out _).mono ?_
            rintro e w4 ⟨rfl, hb4⟩
            have hB4 : Below wr.heap.size wr w4 := Below.next (by go_grown) hb4
            refine hK.out _ _ ?_ (fun hHeld2 => ?_)
            · (try dsimp only); exact SB.mk hB4
            clear hK K hHeld; have hHeld := hHeld2; clear hHeld2; (try simp only [Act.put, List.setIfInBounds_toArray, List.set_cons_zero, List.set_cons_succ])
            first | (refine take_on (i := 10) (v := ?_) rfl (by kernel_rfl) (by kernel_rfl) (by kernel_rfl) (fun _ _ _ h => h) rfl ?_ (by assumption) ?_; rotate_left; · (intro w' hSw; (try dsimp only at hSw); go_simp; (try with_reducible rfl))) | (refine take_off (i := 10) rfl (by kernel_rfl) (by kernel_rfl) (by kernel_rfl) (fun _ _ _ h => h) rfl (by assumption) ?_)
            (try simp only [Act.put, List.setIfInBounds_toArray, List.set_cons_zero, List.set_cons_succ])
            first | (refine take_on (i := 11) (v := ?_) rfl (by kernel_rfl) (by kernel_rfl) (by kernel_rfl) (fun _ _ _ h => h) rfl ?_ (by assumption) ?_; rotate_left; · (intro w' hSw; (try dsimp only at hSw); go_simp; (try with_reducible rfl))) | (refine take_off (i := 11) rfl (by kernel_rfl) (by kernel_rfl) (by kernel_rfl) (fun _ _ _ h => h) rfl (by assumption) ?_)
            (try simp only [Act.put, List.setIfInBounds_toArray, List.set_cons_zero, List.set_cons_succ])
            first | (refine take_on (i := 12) (v := ?_) rfl (by kernel_rfl) (by kernel_rfl) (by kernel_rfl) (fun _ _ _ h => h) rfl ?_ (by assumption) ?_; rotate_left; · (intro w' hSw; (try dsimp only at hSw); go_simp; (try with_reducible rfl))) | (refine take_off (i := 12) rfl (by kernel_rfl) (by kernel_rfl) (by kernel_rfl) (fun _ _ _ h => h) rfl (by assumption) ?_)
            (try simp only [Act.put, List.setIfInBounds_toArray, List.set_cons_zero, List.set_cons_succ])
            first | (refine take_on (i := 13) (v := ?_) rfl (by kernel_rfl) (by kernel_rfl) (by kernel_rfl) (fun _ _ _ h => h) rfl ?_ (by assumption) ?_; rotate_left; · (intro w' hSw; (try dsimp only at hSw); go_simp; (try with_reducible rfl))) | (refine take_off (i := 13) rfl (by kernel_rfl) (by kernel_rfl) (by kernel_rfl) (fun _ _ _ h => h) rfl (by assumption) ?_)
            (try simp only [Act.put, List.setIfInBounds_toArray, List.set_cons_zero, List.set_cons_succ])
            first | (refine take_on (i := 14) (v := ?_) rfl (by kernel_rfl) (by kernel_rfl) (by kernel_rfl) (fun _ _ _ h => h) rfl ?_ (by assumption) ?_; rotate_left; · (intro w' hSw; (try dsimp only at hSw); go_simp; (try with_reducible rfl))) | (refine take_off (i := 14) rfl (by kernel_rfl) (by kernel_rfl) (by kernel_rfl) (fun _ _ _ h => h) rfl (by assumption) ?_)
            (try simp only [Act.put, List.setIfInBounds_toArray, List.set_cons_zero, List.set_cons_succ])
            first | (refine take_on (i := 15) (v := ?_) rfl (by kernel_rfl) (by kernel_rfl) (by kernel_rfl) (fun _ _ _ h => h) rfl ?_ (by assumption) ?_; rotate_left; · (intro w' hSw; (try dsimp only at hSw); go_simp; (try with_reducible rfl))) | (refine take_off (i := 15) rfl (by kernel_rfl) (by kernel_rfl) (by kernel_rfl) (fun _ _ _ h => h) rfl (by assumption) ?_)
            (try simp only [Act.put, List.setIfInBounds_toArray, List.set_cons_zero, List.set_cons_succ])
            first | (refine take_on (i := 16) (v := ?_) rfl (by kernel_rfl) (by kernel_rfl) (by kernel_rfl) (fun _ _ _ h => h) rfl ?_ (by assumption) ?_; rotate_left; · (intro w' hSw; (try dsimp only at hSw); go_simp; (try with_reducible rfl))) | (refine take_off (i := 16) rfl (by kernel_rfl) (by kernel_rfl) (by kernel_rfl) (fun _ _ _ h => h) rfl (by assumption) ?_)
            (try simp only [Act.put, List.setIfInBounds_toArray, List.set_cons_zero, List.set_cons_succ])
            refine wpAnyH_done (by kernel_rfl) ?_ _
            clear hHeld
            have hz4 := hB4.size
            have HO4 := Lib.hid (HO.out.next hB4)
            have HB4 := Lib.hid (HBK.out.next hB4)
            have HAP4 : Hid (Apart b w.heap.size w w4) := (HA1.out.trans (HAP.out.mono hz1)).then hB4 (by omega)
            clear HO HBK c0 c1 c2 f0 f1 f2
            obtain ⟨⟨c0, f0⟩, ⟨c1, f1⟩, c2, f2⟩ := bk3 HB4.out
            have hlt4 := HB4.out.lt
            obtain ⟨V, hV0⟩ : ∃ V, (fromV l).1 = V := ⟨_, rfl⟩
            obtain ⟨N, hN0⟩ : ∃ N, V.length = N := ⟨_, rfl⟩
            have HN := Lib.hid hN0
            clear hN0
            cases hok : (fromV l).2
            all_goals
              have HV : Hid (fromV l = (V, _)) := Prod.ext hV0 hok
              clear hok
              go_wp2_with fail
              refine (l04From_any A2 j c9 N l V _ _ ((HO4.out.setCell ⟨b, 2, none⟩ (.bool true) (fun k hk => by have h1 := (HO4.out.lt k hk).1; simp only [ne_eq]; omega)).rdS HLJ.out) HLJ.out HRP.out (by omega) HV.out HN.out).mono ?_
              rintro e w5 ⟨A5, c5, rfl, hown5, hb5⟩
              have hz5 := hb5.size
              (try simp only [World.size_alloc, setCell_size] at hz5)
              have hbk5 := ((HB4.out.put 2 (.bool true) : Bk _ b 34 #[.string s, .int .i64 (q : Int), .bool true])).next hb5
              have HO7 := Lib.hid (hown5.setCell ⟨b, 2, none⟩ (.bool true) (fun k hk => by have h1 := (hown5.lt k hk).1; (try simp only [World.size_alloc, setCell_size] at h1); simp only [ne_eq]; omega))
              have HO8 := Lib.hid hown5
              have HAP5 : Hid (Apart b w.heap.size w w5) := Apart.then (HAP4.out.set 2 (.bool true)) hb5 (by (try simp only [World.size_alloc, setCell_size]); omega)
              obtain ⟨⟨d0, k0⟩, ⟨d1, k1⟩, d2, k2⟩ := bk3 hbk5
              have hlt5 := hbk5.lt
              clear hown5
              go_wp2_with fail
              refine bodyPost_ret (by simp [results, Tryz.results26, go_sem, *]; try rfl) rfl ?_
              first
                | exact ⟨A5, c5, N, V, q, true, rfl, HN.out, HO8.out.mono (by (try simp only [World.size_alloc, setCell_size]); omega), hbk5, hq, HAP5.out, .inr ⟨rfl, .inr HNO.out⟩⟩
                | exact ⟨A5, c5, N, V, q, true, rfl, HN.out, HO7.out.mono (by (try simp only [World.size_alloc, setCell_size]); omega), hbk5.put 2 _, hq, HAP5.out.set _ _, .inr ⟨rfl, .inr HNO.out⟩⟩
        · have HNO : Hid (colS s a m = none) := colS_rice HNUM.out (rices_no (rices_bad HRI.out hr1) (by omega))
          have HRR : Hid (∀ w, Calls Tryz.prog 50 #[.string s, .int .i64 (q : Int), .int .i64 (v : Int)] w fun e w' => e = .returned (.tuple #[.int .i64 0, .int .i64 0, .int .i64 cd]) ∧ Below w.heap.size w w') := fun w => by
            have h := l04Read_any s hs hall.out q v _ hq (by omega) (onesN_at s hq) w
            rw [hr2] at h
            exact h
          clear hr1 hr2
          rcases hr3 with rfl | rfl
          all_goals
            go_wp2_with fail
            refine wp_region_held_drew (S := (fun w' => (∀ kb ko, kb < wr.heap.size → w'.cell? ⟨kb, ko, none⟩ = wr.cell? ⟨kb, ko, none⟩) ∧ wr.heap.size ≤ w'.heap.size ∧ Below wr.heap.size wr w')) (by kernel_rfl) ?_ (fun hHeld => ?_)
            · (try dsimp only); (first | exact SB.mk hkB | exact SB.mk ((Below.refl _ _).drew) | (refine SB.mk ?_; go_grown; done) | (go_split_ands; refine SB.mk (Below.drew ?_); assumption) | (go_split_ands; refine SB.mk ?_; go_grown; done))
            first | (refine take_on (i := 0) (v := ?_) rfl (by kernel_rfl) (by kernel_rfl) (by kernel_rfl) (fun _ _ _ h => h) rfl ?_ (by assumption) ?_; rotate_left; · (intro w' hSw; (try dsimp only at hSw); go_simp; (try with_reducible rfl))) | (refine take_off (i := 0) rfl (by kernel_rfl) (by kernel_rfl) (by kernel_rfl) (fun _ _ _ h => h) rfl (by assumption) ?_)
            (try simp only [Act.put, List.setIfInBounds_toArray, List.set_cons_zero, List.set_cons_succ])
            first | (refine take_on (i := 1) (v := ?_) rfl (by kernel_rfl) (by kernel_rfl) (by kernel_rfl) (fun _ _ _ h => h) rfl ?_ (by assumption) ?_; rotate_left; · (intro w' hSw; (try dsimp only at hSw); go_simp; (try with_reducible rfl))) | (refine take_off (i := 1) rfl (by kernel_rfl) (by kernel_rfl) (by kernel_rfl) (fun _ _ _ h => h) rfl (by assumption) ?_)
            (try simp only [Act.put, List.setIfInBounds_toArray, List.set_cons_zero, List.set_cons_succ])
            first | (refine take_on (i := 2) (v := ?_) rfl (by kernel_rfl) (by kernel_rfl) (by kernel_rfl) (fun _ _ _ h => h) rfl ?_ (by assumption) ?_; rotate_left; · (intro w' hSw; (try dsimp only at hSw); go_simp; (try with_reducible rfl))) | (refine take_off (i := 2) rfl (by kernel_rfl) (by kernel_rfl) (by kernel_rfl) (fun _ _ _ h => h) rfl (by assumption) ?_)
            (try simp only [Act.put, List.setIfInBounds_toArray, List.set_cons_zero, List.set_cons_succ])
            first | (refine take_on (i := 3) (v := ?_) rfl (by kernel_rfl) (by kernel_rfl) (by kernel_rfl) (fun _ _ _ h => h) rfl ?_ (by assumption) ?_; rotate_left; · (intro w' hSw; (try dsimp only at hSw); go_simp; (try with_reducible rfl))) | (refine take_off (i := 3) rfl (by kernel_rfl) (by kernel_rfl) (by kernel_rfl) (fun _ _ _ h => h) rfl (by assumption) ?_)
            (try simp only [Act.put, List.setIfInBounds_toArray, List.set_cons_zero, List.set_cons_succ])
            first | (refine take_on (i := 4) (v := ?_) rfl (by kernel_rfl) (by kernel_rfl) (by kernel_rfl) (fun _ _ _ h => h) rfl ?_ (by assumption) ?_; rotate_left; · (intro w' hSw; (try dsimp only at hSw); go_simp; (try with_reducible rfl))) | (refine take_off (i := 4) rfl (by kernel_rfl) (by kernel_rfl) (by kernel_rfl) (fun _ _ _ h => h) rfl (by assumption) ?_)
            (try simp only [Act.put, List.setIfInBounds_toArray, List.set_cons_zero, List.set_cons_succ])
            first | (refine take_on (i := 5) (v := ?_) rfl (by kernel_rfl) (by kernel_rfl) (by kernel_rfl) (fun _ _ _ h => h) rfl ?_ (by assumption) ?_; rotate_left; · (intro w' hSw; (try dsimp only at hSw); go_simp; (try with_reducible rfl))) | (refine take_off (i := 5) rfl (by kernel_rfl) (by kernel_rfl) (by kernel_rfl) (fun _ _ _ h => h) rfl (by assumption) ?_)
            (try simp only [Act.put, List.setIfInBounds_toArray, List.set_cons_zero, List.set_cons_succ])
            first | (refine take_on (i := 6) (v := ?_) rfl (by kernel_rfl) (by kernel_rfl) (by kernel_rfl) (fun _ _ _ h => h) rfl ?_ (by assumption) ?_; rotate_left; · (intro w' hSw; (try dsimp only at hSw); go_simp; (try with_reducible rfl))) | (refine take_off (i := 6) rfl (by kernel_rfl) (by kernel_rfl) (by kernel_rfl) (fun _ _ _ h => h) rfl (by assumption) ?_)
            (try simp only [Act.put, List.setIfInBounds_toArray, List.set_cons_zero, List.set_cons_succ])
            first | (refine take_on (i := 7) (v := ?_) rfl (by kernel_rfl) (by kernel_rfl) (by kernel_rfl) (fun _ _ _ h => h) rfl ?_ (by assumption) ?_; rotate_left; · (intro w' hSw; (try dsimp only at hSw); go_simp; (try with_reducible rfl))) | (refine take_off (i := 7) rfl (by kernel_rfl) (by kernel_rfl) (by kernel_rfl) (fun _ _ _ h => h) rfl (by assumption) ?_)
            (try simp only [Act.put, List.setIfInBounds_toArray, List.set_cons_zero, List.set_cons_succ])
            first | (refine take_on (i := 8) (v := ?_) rfl (by kernel_rfl) (by kernel_rfl) (by kernel_rfl) (fun _ _ _ h => h) rfl ?_ (by assumption) ?_; rotate_left; · (intro w' hSw; (try dsimp only at hSw); go_simp; (try with_reducible rfl))) | (refine take_off (i := 8) rfl (by kernel_rfl) (by kernel_rfl) (by kernel_rfl) (fun _ _ _ h => h) rfl (by assumption) ?_)
            (try simp only [Act.put, List.setIfInBounds_toArray, List.set_cons_zero, List.set_cons_succ])
            refine wpAnyH_ready (rs := [9]) (by kernel_rfl) (by simp) ?_
            refine AllReadyH.cons rfl (fun K hK => ?_) AllReadyH.nil
            rw [if_pos (by rfl)]
            go_simp
            go_at_call 50
            refine (HRR.out _).mono ?_
            rintro e w4 ⟨rfl, hb4⟩
            have hB4 : Below wr.heap.size wr w4 := Below.next (by go_grown) hb4
            refine hK.out _ _ ?_ (fun hHeld2 => ?_)
            · (try dsimp only); exact SB.mk hB4
            clear hK K hHeld; have hHeld := hHeld2; clear hHeld2; (try simp only [Act.put, List.setIfInBounds_toArray, List.set_cons_zero, List.set_cons_succ])
            first | (refine take_on (i := 10) (v := ?_) rfl (by kernel_rfl) (by kernel_rfl) (by kernel_rfl) (fun _ _ _ h => h) rfl ?_ (by assumption) ?_; rotate_left; · (intro w' hSw; (try dsimp only at hSw); go_simp; (try with_reducible rfl))) | (refine take_off (i := 10) rfl (by kernel_rfl) (by kernel_rfl) (by kernel_rfl) (fun _ _ _ h => h) rfl (by assumption) ?_)
            (try simp only [Act.put, List.setIfInBounds_toArray, List.set_cons_zero, List.set_cons_succ])
            first | (refine take_on (i := 11) (v := ?_) rfl (by kernel_rfl) (by kernel_rfl) (by kernel_rfl) (fun _ _ _ h => h) rfl ?_ (by assumption) ?_; rotate_left; · (intro w' hSw; (try dsimp only at hSw); go_simp; (try with_reducible rfl))) | (refine take_off (i := 11) rfl (by kernel_rfl) (by kernel_rfl) (by kernel_rfl) (fun _ _ _ h => h) rfl (by assumption) ?_)
            (try simp only [Act.put, List.setIfInBounds_toArray, List.set_cons_zero, List.set_cons_succ])
            first | (refine take_on (i := 12) (v := ?_) rfl (by kernel_rfl) (by kernel_rfl) (by kernel_rfl) (fun _ _ _ h => h) rfl ?_ (by assumption) ?_; rotate_left; · (intro w' hSw; (try dsimp only at hSw); go_simp; (try with_reducible rfl))) | (refine take_off (i := 12) rfl (by kernel_rfl) (by kernel_rfl) (by kernel_rfl) (fun _ _ _ h => h) rfl (by assumption) ?_)
            (try simp only [Act.put, List.setIfInBounds_toArray, List.set_cons_zero, List.set_cons_succ])
            first | (refine take_on (i := 13) (v := ?_) rfl (by kernel_rfl) (by kernel_rfl) (by kernel_rfl) (fun _ _ _ h => h) rfl ?_ (by assumption) ?_; rotate_left; · (intro w' hSw; (try dsimp only at hSw); go_simp; (try with_reducible rfl))) | (refine take_off (i := 13) rfl (by kernel_rfl) (by kernel_rfl) (by kernel_rfl) (fun _ _ _ h => h) rfl (by assumption) ?_)
            (try simp only [Act.put, List.setIfInBounds_toArray, List.set_cons_zero, List.set_cons_succ])
            first | (refine take_on (i := 14) (v := ?_) rfl (by kernel_rfl) (by kernel_rfl) (by kernel_rfl) (fun _ _ _ h => h) rfl ?_ (by assumption) ?_; rotate_left; · (intro w' hSw; (try dsimp only at hSw); go_simp; (try with_reducible rfl))) | (refine take_off (i := 14) rfl (by kernel_rfl) (by kernel_rfl) (by kernel_rfl) (fun _ _ _ h => h) rfl (by assumption) ?_)
            (try simp only [Act.put, List.setIfInBounds_toArray, List.set_cons_zero, List.set_cons_succ])
            first | (refine take_on (i := 15) (v := ?_) rfl (by kernel_rfl) (by kernel_rfl) (by kernel_rfl) (fun _ _ _ h => h) rfl ?_ (by assumption) ?_; rotate_left; · (intro w' hSw; (try dsimp only at hSw); go_simp; (try with_reducible rfl))) | (refine take_off (i := 15) rfl (by kernel_rfl) (by kernel_rfl) (by kernel_rfl) (fun _ _ _ h => h) rfl (by assumption) ?_)
            (try simp only [Act.put, List.setIfInBounds_toArray, List.set_cons_zero, List.set_cons_succ])
            first | (refine take_on (i := 16) (v := ?_) rfl (by kernel_rfl) (by kernel_rfl) (by kernel_rfl) (fun _ _ _ h => h) rfl ?_ (by assumption) ?_; rotate_left; · (intro w' hSw; (try dsimp only at hSw); go_simp; (try with_reducible rfl))) | (refine take_off (i := 16) rfl (by kernel_rfl) (by kernel_rfl) (by kernel_rfl) (fun _ _ _ h => h) rfl (by assumption) ?_)
            (try simp only [Act.put, List.setIfInBounds_toArray, List.set_cons_zero, List.set_cons_succ])
            refine wpAnyH_done (by kernel_rfl) ?_ _
            clear hHeld
            have hz4 := hB4.size
            have HO4 := Lib.hid (HO.out.next hB4)
            have HB4 := Lib.hid (HBK.out.next hB4)
            have HAP4 : Hid (Apart b w.heap.size w w4) := (HA1.out.trans (HAP.out.mono hz1)).then hB4 (by omega)
            clear HO HBK c0 c1 c2 f0 f1 f2
            obtain ⟨⟨c0, f0⟩, ⟨c1, f1⟩, c2, f2⟩ := bk3 HB4.out
            have hlt4 := HB4.out.lt
            obtain ⟨V, hV0⟩ : ∃ V, (fromV l).1 = V := ⟨_, rfl⟩
            obtain ⟨N, hN0⟩ : ∃ N, V.length = N := ⟨_, rfl⟩
            have HN := Lib.hid hN0
            clear hN0
            cases hok : (fromV l).2
            all_goals
              have HV : Hid (fromV l = (V, _)) := Prod.ext hV0 hok
              clear hok
              go_wp2_with fail
              refine (l04From_any A2 j c9 N l V _ _ ((HO4.out.setCell ⟨b, 2, none⟩ (.bool true) (fun k hk => by have h1 := (HO4.out.lt k hk).1; simp only [ne_eq]; omega)).rdS HLJ.out) HLJ.out HRP.out (by omega) HV.out HN.out).mono ?_
              rintro e w5 ⟨A5, c5, rfl, hown5, hb5⟩
              have hz5 := hb5.size
              (try simp only [World.size_alloc, setCell_size] at hz5)
              have hbk5 := ((HB4.out.put 2 (.bool true) : Bk _ b 34 #[.string s, .int .i64 (q : Int), .bool true])).next hb5
              have HO7 := Lib.hid (hown5.setCell ⟨b, 2, none⟩ (.bool true) (fun k hk => by have h1 := (hown5.lt k hk).1; (try simp only [World.size_alloc, setCell_size] at h1); simp only [ne_eq]; omega))
              have HO8 := Lib.hid hown5
              have HAP5 : Hid (Apart b w.heap.size w w5) := Apart.then (HAP4.out.set 2 (.bool true)) hb5 (by (try simp only [World.size_alloc, setCell_size]); omega)
              obtain ⟨⟨d0, k0⟩, ⟨d1, k1⟩, d2, k2⟩ := bk3 hbk5
              have hlt5 := hbk5.lt
              clear hown5
              go_wp2_with fail
              refine bodyPost_ret (by simp [results, Tryz.results26, go_sem, *]; try rfl) rfl ?_
              first
                | exact ⟨A5, c5, N, V, q, true, rfl, HN.out, HO8.out.mono (by (try simp only [World.size_alloc, setCell_size]); omega), hbk5, hq, HAP5.out, .inr ⟨rfl, .inr HNO.out⟩⟩
                | exact ⟨A5, c5, N, V, q, true, rfl, HN.out, HO7.out.mono (by (try simp only [World.size_alloc, setCell_size]); omega), hbk5.put 2 _, hq, HAP5.out.set _ _, .inr ⟨rfl, .inr HNO.out⟩⟩
      · obtain rfl : j = m := by omega
        replace HJ : Hid (v ≤ 12 ∨ j = 0) := HJ
        obtain ⟨V, hV0⟩ : ∃ V, (fromV l).1 = V := ⟨_, rfl⟩
        obtain ⟨N, hN0⟩ : ∃ N, V.length = N := ⟨_, rfl⟩
        have HN := Lib.hid hN0
        clear hN0
        cases hok : (fromV l).2
        all_goals
          have HV : Hid (fromV l = (V, _)) := Prod.ext hV0 hok
          clear hok
          go_wp2_with fail
          refine (l04From_any A2 j c9 N l V _ _ (HO.out.rdS HLJ.out) HLJ.out HRP.out (by omega) HV.out HN.out).mono ?_
          rintro e w5 ⟨A5, c5, rfl, hown5, hb5⟩
          have hz5 := hb5.size
          (try simp only [World.size_alloc, setCell_size] at hz5)
          have hbk5 := (HBK.out).next hb5
          have HO7 := Lib.hid (hown5.setCell ⟨b, 2, none⟩ (.bool true) (fun k hk => by have h1 := (hown5.lt k hk).1; (try simp only [World.size_alloc, setCell_size] at h1); simp only [ne_eq]; omega))
          have HO8 := Lib.hid hown5
          have HAP5 : Hid (Apart b w.heap.size w w5) := Apart.then (HA1.out.trans (HAP.out.mono hz1)) hb5 (by (try simp only [World.size_alloc, setCell_size]); omega)
          obtain ⟨⟨d0, k0⟩, ⟨d1, k1⟩, d2, k2⟩ := bk3 hbk5
          have hlt5 := hbk5.lt
          clear hown5
          go_wp2_with fail
          refine bodyPost_ret (by simp [results, Tryz.results26, go_sem, *]; try rfl) rfl ?_
          first
            | exact ⟨A5, c5, N, V, q, false, rfl, HN.out, HO8.out.mono (by (try simp only [World.size_alloc, setCell_size]); omega), hbk5, hq, HAP5.out, .inl ⟨rfl, rfl, colS_yes HNUM.out HJ.out HRI.out (fromV_true HV.out)⟩⟩
            | exact ⟨A5, c5, N, V, q, true, rfl, HN.out, HO7.out.mono (by (try simp only [World.size_alloc, setCell_size]); omega), hbk5.put 2 _, hq, HAP5.out.set _ _, .inr ⟨rfl, .inr (colS_from HNUM.out HRI.out (fromV_false HV.out))⟩⟩
  · have HG1 := HG1
    go_wp2_with fail
    go_loopw [6, 7] (fun u i wr => i = .int .i64 0 ∧ u = .slice (some ⟨w1.heap.size, 0, none⟩) 0 0 ∧ Hid (wr = (w1.alloc (.cells #[] 2)))) (fun _ i _ => (intOf i).toNat)
    case atStart => exact ⟨rfl, rfl, rfl⟩
    case round =>
      obtain ⟨rfl, rfl, hw⟩ := hrel
      have hwr : wr = (w1.alloc (.cells #[] 2)) := hw.out
      have HBW : Hid (Bk wr b 34 #[.string s, .int .i64 (p : Int), .bool true]) := by rw [hwr]; exact HB1.out.alloc _
      have HAW : Hid (Apart b w.heap.size w wr) := by rw [hwr]; exact HA1.out.then ((Below.refl _ _).alloc (Nat.le_refl _) _) (by omega)
      have hzr : w1.heap.size < wr.heap.size := by rw [hwr]; simp
      have HRDW : Hid (Rd wr (some ⟨w1.heap.size, 0, none⟩) 0 1 (rowOf iC [])) := Rd.nil _ _ _
      clear hwr hw
      obtain ⟨⟨c0, f0⟩, ⟨c1, f1⟩, c2, f2⟩ := bk3 HBW.out
      have hltr := HBW.out.lt
      by_cases hv0 : 0 < m
      · have hvi : (0 : Int) < (m : Int) := by omega
        obtain ⟨V, hV0⟩ : ∃ V, (fromV []).1 = V := ⟨_, rfl⟩
        obtain ⟨N, hN0⟩ : ∃ N, V.length = N := ⟨_, rfl⟩
        have HN := Lib.hid hN0
        clear hN0
        cases hok : (fromV []).2
        all_goals
          have HV : Hid (fromV [] = (V, _)) := Prod.ext hV0 hok
          clear hok
          go_wp2_with fail
          refine (l04From_any (some ⟨w1.heap.size, 0, none⟩) 0 0 N [] V _ _ (HRDW.out) rfl (fun x hx => by cases hx) (by omega) HV.out HN.out).mono ?_
          rintro e w5 ⟨A5, c5, rfl, hown5, hb5⟩
          have hz5 := hb5.size
          (try simp only [World.size_alloc, setCell_size] at hz5)
          have hbk5 := (HBW.out).next hb5
          have HO7 := Lib.hid (hown5.setCell ⟨b, 2, none⟩ (.bool true) (fun k hk => by have h1 := (hown5.lt k hk).1; (try simp only [World.size_alloc, setCell_size] at h1); simp only [ne_eq]; omega))
          have HO8 := Lib.hid hown5
          have HAP5 : Hid (Apart b w.heap.size w w5) := Apart.then HAW.out hb5 (by (try simp only [World.size_alloc, setCell_size]); omega)
          obtain ⟨⟨d0, k0⟩, ⟨d1, k1⟩, d2, k2⟩ := bk3 hbk5
          have hlt5 := hbk5.lt
          clear hown5
          go_wp2_with fail
          refine bodyPost_ret (by simp [results, Tryz.results26, go_sem, *]; try rfl) rfl ?_
          first
            | exact ⟨A5, c5, N, V, p, true, rfl, HN.out, HO8.out.mono (by (try simp only [World.size_alloc, setCell_size]); omega), hbk5, hp, HAP5.out, .inr ⟨rfl, HG1.out.bad.imp id colS_num⟩⟩
            | exact ⟨A5, c5, N, V, p, true, rfl, HN.out, HO7.out.mono (by (try simp only [World.size_alloc, setCell_size]); omega), hbk5.put 2 _, hp, HAP5.out.set _ _, .inr ⟨rfl, HG1.out.bad.imp id colS_num⟩⟩
      · have hvi : decide ((0 : Int) < (m : Int)) = false := decide_eq_false (by omega)
        obtain rfl : m = 0 := by omega
        obtain ⟨V, hV0⟩ : ∃ V, (fromV []).1 = V := ⟨_, rfl⟩
        obtain ⟨N, hN0⟩ : ∃ N, V.length = N := ⟨_, rfl⟩
        have HN := Lib.hid hN0
        clear hN0
        cases hok : (fromV []).2
        all_goals
          have HV : Hid (fromV [] = (V, _)) := Prod.ext hV0 hok
          clear hok
          go_wp2_with fail
          refine (l04From_any (some ⟨w1.heap.size, 0, none⟩) 0 0 N [] V _ _ (HRDW.out) rfl (fun x hx => by cases hx) (by omega) HV.out HN.out).mono ?_
          rintro e w5 ⟨A5, c5, rfl, hown5, hb5⟩
          have hz5 := hb5.size
          (try simp only [World.size_alloc, setCell_size] at hz5)
          have hbk5 := (HBW.out).next hb5
          have HO7 := Lib.hid (hown5.setCell ⟨b, 2, none⟩ (.bool true) (fun k hk => by have h1 := (hown5.lt k hk).1; (try simp only [World.size_alloc, setCell_size] at h1); simp only [ne_eq]; omega))
          have HO8 := Lib.hid hown5
          have HAP5 : Hid (Apart b w.heap.size w w5) := Apart.then HAW.out hb5 (by (try simp only [World.size_alloc, setCell_size]); omega)
          obtain ⟨⟨d0, k0⟩, ⟨d1, k1⟩, d2, k2⟩ := bk3 hbk5
          have hlt5 := hbk5.lt
          clear hown5
          go_wp2_with fail
          refine bodyPost_ret (by simp [results, Tryz.results26, go_sem, *]; try rfl) rfl ?_
          first
            | exact ⟨A5, c5, N, V, p, true, rfl, HN.out, HO8.out.mono (by (try simp only [World.size_alloc, setCell_size]); omega), hbk5, hp, HAP5.out, .inr ⟨rfl, HG1.out.bad.imp id colS_num⟩⟩
            | exact ⟨A5, c5, N, V, p, true, rfl, HN.out, HO7.out.mono (by (try simp only [World.size_alloc, setCell_size]); omega), hbk5.put 2 _, hp, HAP5.out.set _ _, .inr ⟨rfl, HG1.out.bad.imp id colS_num⟩⟩
end Go.Proofs.YtinlhigpmchiaaaGreatDoor
