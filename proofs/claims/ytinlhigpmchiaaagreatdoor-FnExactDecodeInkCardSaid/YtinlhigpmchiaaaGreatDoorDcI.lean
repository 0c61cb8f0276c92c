/-
  A column read from bits: the program's walk.
-/
import Derived.Test.YtinlhigpmchiaaaGreatDoorDcP
namespace Go.Proofs.YtinlhigpmchiaaaGreatDoor
set_option linter.unusedSimpArgs false
set_option linter.unusedVariables false
set_option maxRecDepth 20000
open Go.RowKit
open Go.ChangeShapes Go.WideShapes Go.Deep Go.Joins

set_option maxHeartbeats 8000000 in
theorem icol_any (b : Nat) (s : ByteArray) (a m : Nat) (f : Bool) (w : World) (hb : Bk w b 49 #[.string s, .int .i64 (a : Int), .bool f]) (hs : s.size ≤ 8388608) (hall : Hid (s.data.toList.all isBit = true)) (ha : a ≤ s.size) (hm : m ≤ 255) :
    Calls Tryz.prog 38 #[.pointer (some ⟨b, 0, none⟩), .int .i64 (m : Int)] w fun e w' => ∃ (A2 : Option Addr) (c2 N : Nat) (L : List Int) (t : Nat) (g : Bool), e = .returned (.slice A2 N c2) ∧ L.length = N ∧ Own iC 2 1 w' w.heap.size (.slice A2 N c2) L ∧ Bk w' b 49 #[.string s, .int .i64 (t : Int), .bool g] ∧ t ≤ s.size ∧ Apart b w.heap.size w w' ∧ Got (colI s a m) f L t g := by
  have hltw := hb.lt
  have HN := inum_any b s a 4 f w hb hs hall ha (by omega)
  clear hb
  go_enter Tryz.func38, Tryz.ntmps38
  go_wp2_with fail
  refine HN.mono ?_
  rintro e w1 ⟨v, p, g, rfl, hb1, hv, hp, hA1, hG1⟩
  have HB1 := Lib.hid hb1
  have HA1 := Lib.hid hA1
  have HG1 := Lib.hid hG1
  have hz1 := hA1.size
  obtain ⟨⟨c0, f0⟩, ⟨c1, f1⟩, c2, f2⟩ := bk3 hb1
  have hlt1 := hb1.lt
  clear HN hb1 hA1 hG1
  cases g
  · obtain ⟨rfl, hnum⟩ := HG1.out.good
    have HNUM := Lib.hid hnum
    clear hnum HG1
    by_cases hk : v ≤ 12
    · have hk2 : ¬ (v : Int) > 12 := by omega
      go_wp2_with fail
      clear c0 c1 c2 f0 f1 f2
      go_loopw [1, 6] (fun i u wr => ∃ (c j q : Nat) (l : List Int), c + j = m ∧ i = .int .i64 (c : Int) ∧ Hid (l.length = j) ∧ Hid (ricesO s v p j = some (l, q)) ∧ q ≤ s.size ∧ Own iC 2 1 wr w1.heap.size u l ∧ Bk wr b 49 #[.string s, .int .i64 (q : Int), .bool false] ∧ Hid (Apart b w1.heap.size w1 wr)) (fun i _ _ => (intOf i).toNat)
      case atStart => exact ⟨m, 0, p, [], by omega, rfl, rfl, rfl, hp, Own.nil _ _ _ _ _, HB1.out, Apart.refl _ _ _⟩
      case round =>
        obtain ⟨c, j, q, l, hcj, rfl, HLJ, HRI, hq, hown, hbk, HAP⟩ := hrel
        have hza := HAP.out.size
        have hltr := hbk.lt
        have HBK := Lib.hid hbk
        have HO := Lib.hid hown
        obtain ⟨⟨c0, f0⟩, ⟨c1, f1⟩, c2, f2⟩ := bk3 hbk
        clear hbk hown
        by_cases hpos : 0 < c
        · have hci : (c : Int) > 0 := by omega
          rcases rice_cases s hall.out v q (by omega) hq with ⟨x, r, hr1, hr2, _, hr3, hr4, hr5⟩ | ⟨cd, hr1, hr2, hr3⟩
          · have HRR : Hid (∀ w, Calls Tryz.prog 58 #[.string s, .int .i64 (q : Int), .int .i64 (v : Int)] w fun e w' => e = .returned (.tuple #[.int .i64 x, .int .i64 (r : Int), .int .i64 0]) ∧ Below w.heap.size w w') := fun w => by
              have h := readRice_any s hs hall.out q v _ hq hk (onesN_at s hq) w
              rw [hr2] at h
              exact h
            have HNX : Hid (ricesO s v p (j + 1) = some (l ++ [x], r)) := rices_good HRI.out hr1
            clear hr1 hr2
            go_wp2_with fail
            refine wp_region_held_drew (S := (fun w' => (∀ kb ko, kb < wr.heap.size → w'.cell? ⟨kb, ko, none⟩ = wr.cell? ⟨kb, ko, none⟩) ∧ wr.heap.size ≤ w'.heap.size ∧ Below wr.heap.size wr w')) (by kernel_rfl) ?_ (fun hHeld => ?_)
            · (try dsimp only); (first | exact SB.mk hkB | exact SB.mk ((Below.refl _ _).drew) | (refine SB.mk ?_; go_grown; done) | (go_split_ands; refine SB.mk (Below.drew ?_); assumption) | (go_split_ands; refine SB.mk ?_; go_grown; done))
            first | (refine take_on (i := 0) (v := ?_) rfl (by kernel_rfl) (by kernel_rfl) (by kernel_rfl) (fun _ _ _ h => h) rfl ?_ (by assumption) ?_; rotate_left; · (intro w' hSw; (try dsimp only at hSw); go_simp; (try with_reducible rfl))) | (refine take_off (i := 0) rfl (by kernel_rfl) (by kernel_rfl) (by kernel_rfl) (fun _ _ _ h => h) rfl (by assumption) ?_)
            (try simp only [Act.put, List.setIfInBounds_toArray, List.set_cons_zero, List.set_cons_succ])
            first | (refine take_on (i := 1) (v := ?_) rfl (by kernel_rfl) (by kernel_rfl) (by kernel_rfl) (fun _ _ _ h => h) rfl ?_ (by assumption) ?_; rotate_left; · (intro w' hSw; (try dsimp only at hSw); go_simp; (try with_reducible rfl))) | (refine take_off (i := 1) rfl (by kernel_rfl) (by kernel_rfl) (by kernel_rfl) (fun _ _ _ h => h) rfl (by assumption) ?_)
            (try simp only [Act.put, List.setIfInBounds_toArray, List.set_cons_zero, List.set_cons_succ])
            first | (refine take_on (i := 2) (v := ?_) rfl (by kernel_rfl) (by kernel_rfl) (by kernel_rfl) (fun _ _ _ h => h) rfl ?_ (by assumption) ?_; rotate_left; · (intro w' hSw; (try dsimp only at hSw); go_simp; (try with_reducible rfl))) | (refine take_off (i := 2) rfl (by kernel_rfl) (by kernel_rfl) (by kernel_rfl) (fun _ _ _ h => h) rfl (by assumption) ?_)
            (try simp only [Act.put, List.setIfInBounds_toArray, List.set_cons_zero, List.set_cons_succ])
            first | (refine take_on (i := 3) (v := ?_) rfl (by kernel_rfl) (by kernel_rfl) (by kernel_rfl) (fun _ _ _ h => h) rfl ?_ (by assumption) ?_; rotate_left; · (intro w' hSw; (try dsimp only at hSw); go_simp; (try with_reducible rfl))) | (refine take_off (i := 3) rfl (by kernel_rfl) (by kernel_rfl) (by kernel_rfl) (fun _ _ _ h => h) rfl (by assumption) ?_)
            (try simp only [Act.put, List.setIfInBounds_toArray, List.set_cons_zero, List.set_cons_succ])
            first | (refine take_on (i := 4) (v := ?_) rfl (by kernel_rfl) (by kernel_rfl) (by kernel_rfl) (fun _ _ _ h => h) rfl ?_ (by assumption) ?_; rotate_left; · (intro w' hSw; (try dsimp only at hSw); go_simp; (try with_reducible rfl))) | (refine take_off (i := 4) rfl (by kernel_rfl) (by kernel_rfl) (by kernel_rfl) (fun _ _ _ h => h) rfl (by assumption) ?_)
            (try simp only [Act.put, List.setIfInBounds_toArray, List.set_cons_zero, List.set_cons_succ])
            first | (refine take_on (i := 5) (v := ?_) rfl (by kernel_rfl) (by kernel_rfl) (by kernel_rfl) (fun _ _ _ h => h) rfl ?_ (by assumption) ?_; rotate_left; · (intro w' hSw; (try dsimp only at hSw); go_simp; (try with_reducible rfl))) | (refine take_off (i := 5) rfl (by kernel_rfl) (by kernel_rfl) (by kernel_rfl) (fun _ _ _ h => h) rfl (by assumption) ?_)
            (try simp only [Act.put, List.setIfInBounds_toArray, List.set_cons_zero, List.set_cons_succ])
            first | (refine take_on (i := 6) (v := ?_) rfl (by kernel_rfl) (by kernel_rfl) (by kernel_rfl) (fun _ _ _ h => h) rfl ?_ (by assumption) ?_; rotate_left; · (intro w' hSw; (try dsimp only at hSw); go_simp; (try with_reducible rfl))) | (refine take_off (i := 6) rfl (by kernel_rfl) (by kernel_rfl) (by kernel_rfl) (fun _ _ _ h => h) rfl (by assumption) ?_)
            (try simp only [Act.put, List.setIfInBounds_toArray, List.set_cons_zero, List.set_cons_succ])
            first | (refine take_on (i := 7) (v := ?_) rfl (by kernel_rfl) (by kernel_rfl) (by kernel_rfl) (fun _ _ _ h => h) rfl ?_ (by assumption) ?_; rotate_left; · (intro w' hSw; (try dsimp only at hSw); go_simp; (try with_reducible rfl))) | (refine take_off (i := 7) rfl (by kernel_rfl) (by kernel_rfl) (by kernel_rfl) (fun _ _ _ h => h) rfl (by assumption) ?_)
            (try simp only [Act.put, List.setIfInBounds_toArray, List.set_cons_zero, List.set_cons_succ])
            first | (refine take_on (i := 8) (v := ?_) rfl (by kernel_rfl) (by kernel_rfl) (by kernel_rfl) (fun _ _ _ h => h) rfl ?_ (by assumption) ?_; rotate_left; · (intro w' hSw; (try dsimp only at hSw); go_simp; (try with_reducible rfl))) | (refine take_off (i := 8) rfl (by kernel_rfl) (by kernel_rfl) (by kernel_rfl) (fun _ _ _ h => h) rfl (by assumption) ?_)
            (try simp only [Act.put, List.setIfInBounds_toArray, List.set_cons_zero, List.set_cons_succ])
            refine wpAnyH_ready (rs := [9]) (by kernel_rfl) (by simp) ?_
            refine AllReadyH.cons rfl (fun K hK => ?_) AllReadyH.nil
            rw [if_pos (by rfl)]
            go_simp
            go_at_call 58
            refine (HRR.out _).mono ?_
            rintro e w4 ⟨rfl, hb4⟩
            have hB4 : Below wr.heap.size wr w4 := Below.next (by go_grown) hb4
            refine hK.out _ _ ?_ (fun hHeld2 => ?_)
            · (try dsimp only); exact SB.mk hB4
            clear hK K hHeld; have hHeld := hHeld2; clear hHeld2; (try simp only [Act.put, List.setIfInBounds_toArray, List.set_cons_zero, List.set_cons_succ])
            first | (refine take_on (i := 10) (v := ?_) rfl (by kernel_rfl) (by kernel_rfl) (by kernel_rfl) (fun _ _ _ h => h) rfl ?_ (by assumption) ?_; rotate_left; · (intro w' hSw; (try dsimp only at hSw); go_simp; (try with_reducible rfl))) | (refine take_off (i := 10) rfl (by kernel_rfl) (by kernel_rfl) (by kernel_rfl) (fun _ _ _ h => h) rfl (by assumption) ?_)
            (try simp only [Act.put, List.setIfInBounds_toArray, List.set_cons_zero, List.set_cons_succ])
            first | (refine take_on (i := 11) (v := ?_) rfl (by kernel_rfl) (by kernel_rfl) (by kernel_rfl) (fun _ _ _ h => h) rfl ?_ (by assumption) ?_; rotate_left; · (intro w' hSw; (try dsimp only at hSw); go_simp; (try with_reducible rfl))) | (refine take_off (i := 11) rfl (by kernel_rfl) (by kernel_rfl) (by kernel_rfl) (fun _ _ _ h => h) rfl (by assumption) ?_)
            (try simp only [Act.put, List.setIfInBounds_toArray, List.set_cons_zero, List.set_cons_succ])
            first | (refine take_on (i := 12) (v := ?_) rfl (by kernel_rfl) (by kernel_rfl) (by kernel_rfl) (fun _ _ _ h => h) rfl ?_ (by assumption) ?_; rotate_left; · (intro w' hSw; (try dsimp only at hSw); go_simp; (try with_reducible rfl))) | (refine take_off (i := 12) rfl (by kernel_rfl) (by kernel_rfl) (by kernel_rfl) (fun _ _ _ h => h) rfl (by assumption) ?_)
            (try simp only [Act.put, List.setIfInBounds_toArray, List.set_cons_zero, List.set_cons_succ])
            first | (refine take_on (i := 13) (v := ?_) rfl (by kernel_rfl) (by kernel_rfl) (by kernel_rfl) (fun _ _ _ h => h) rfl ?_ (by assumption) ?_; rotate_left; · (intro w' hSw; (try dsimp only at hSw); go_simp; (try with_reducible rfl))) | (refine take_off (i := 13) rfl (by kernel_rfl) (by kernel_rfl) (by kernel_rfl) (fun _ _ _ h => h) rfl (by assumption) ?_)
            (try simp only [Act.put, List.setIfInBounds_toArray, List.set_cons_zero, List.set_cons_succ])
            first | (refine take_on (i := 14) (v := ?_) rfl (by kernel_rfl) (by kernel_rfl) (by kernel_rfl) (fun _ _ _ h => h) rfl ?_ (by assumption) ?_; rotate_left; · (intro w' hSw; (try dsimp only at hSw); go_simp; (try with_reducible rfl))) | (refine take_off (i := 14) rfl (by kernel_rfl) (by kernel_rfl) (by kernel_rfl) (fun _ _ _ h => h) rfl (by assumption) ?_)
            (try simp only [Act.put, List.setIfInBounds_toArray, List.set_cons_zero, List.set_cons_succ])
            first | (refine take_on (i := 15) (v := ?_) rfl (by kernel_rfl) (by kernel_rfl) (by kernel_rfl) (fun _ _ _ h => h) rfl ?_ (by assumption) ?_; rotate_left; · (intro w' hSw; (try dsimp only at hSw); go_simp; (try with_reducible rfl))) | (refine take_off (i := 15) rfl (by kernel_rfl) (by kernel_rfl) (by kernel_rfl) (fun _ _ _ h => h) rfl (by assumption) ?_)
            (try simp only [Act.put, List.setIfInBounds_toArray, List.set_cons_zero, List.set_cons_succ])
            first | (refine take_on (i := 16) (v := ?_) rfl (by kernel_rfl) (by kernel_rfl) (by kernel_rfl) (fun _ _ _ h => h) rfl ?_ (by assumption) ?_; rotate_left; · (intro w' hSw; (try dsimp only at hSw); go_simp; (try with_reducible rfl))) | (refine take_off (i := 16) rfl (by kernel_rfl) (by kernel_rfl) (by kernel_rfl) (fun _ _ _ h => h) rfl (by assumption) ?_)
            (try simp only [Act.put, List.setIfInBounds_toArray, List.set_cons_zero, List.set_cons_succ])
            refine wpAnyH_done (by kernel_rfl) ?_ _
            clear hHeld
            have hz4 := hB4.size
            have HO4 := Lib.hid (HO.out.next hB4)
            have HB4 := Lib.hid (HBK.out.next hB4)
            clear HO HBK c0 c1 c2 f0 f1 f2
            go_wp2_with (at_builtin; refine list_push elem_int (by rfl) (.tmp 48) (.tmp 50) 55 (by rfl) Tryz.underlying55 w1.heap.size _ l x (by rfl) (HO4.out.alloc _) j HLJ.out w4.heap.size 1 (by rfl) (fun i u hu => by rw [(Bk.new w4 #[.int .i64 x] 2).cell i]; simpa [iC] using hu) (by unfold maxLen; omega) (by omega) (by simp only [World.size_alloc]; omega) ?_; intro g5 cap5 w5 hown5 hgrow5 hat5 hlt5 hkeep5; have hbk5 : Bk w5 b 49 #[.string s, .int .i64 (q : Int), .bool false] := (hgrow5.block b (by simp only [World.size_alloc]; omega) (fun e => by have h2 := (HO4.out.lt b e.symm).1; omega)).trans (HB4.out.alloc _); obtain ⟨⟨d0, k0⟩, ⟨d1, k1⟩, d2, k2⟩ := bk3 hbk5; have hlt5b := hbk5.lt)
            have hz5 := hgrow5.size
            simp only [World.size_alloc] at hz5
            go_roundw
            case rel =>
              refine ⟨c - 1, j + 1, r, l ++ [x], by omega, by congr 1; omega, by simp [Hid, HLJ.out], HNX, hr3, hown5.setCell _ _ (fun k hk => by have h1 := (hown5.lt k hk).1; simp only [ne_eq]; omega), hbk5.put 1 _, ?_⟩
              exact (((HAP.out.then hB4 hza).then ((Below.refl _ _).alloc (Nat.le_refl _) _) (by omega)).grow hgrow5 (by simp only [World.size_alloc]; omega) (fun k hk => (HO4.out.lt k hk).1)).set _ _
            case measure => (simp [intOf]; try omega)
          · have HRR : Hid (∀ w, Calls Tryz.prog 58 #[.string s, .int .i64 (q : Int), .int .i64 (v : Int)] w fun e w' => e = .returned (.tuple #[.int .i64 0, .int .i64 0, .int .i64 cd]) ∧ Below w.heap.size w w') := fun w => by
              have h := readRice_any s hs hall.out q v _ hq hk (onesN_at s hq) w
              rw [hr2] at h
              exact h
            have HNO : Hid (colI s a m = none) := colI_rice HNUM.out (rices_no (rices_bad HRI.out hr1) (by omega))
            clear hr1 hr2
            rcases hr3 with rfl | rfl
            all_goals
              go_wp2_with fail
              refine wp_region_held_drew (S := (fun w' => (∀ kb ko, kb < wr.heap.size → w'.cell? ⟨kb, ko, none⟩ = wr.cell? ⟨kb, ko, none⟩) ∧ wr.heap.size ≤ w'.heap.size ∧ Below wr.heap.size wr w')) (by kernel_rfl) ?_ (fun hHeld => ?_)
              · (try dsimp only); (first | exact SB.mk hkB | exact SB.mk ((Below.refl _ _).drew) | (refine SB.mk ?_; go_grown; done) | (go_split_ands; refine SB.mk (Below.drew ?_); assumption) | (go_split_ands; refine SB.mk ?_; go_grown; done))
              first | (refine take_on (i := 0) (v := ?_) rfl (by kernel_rfl) (by kernel_rfl) (by kernel_rfl) (fun _ _ _ h => h) rfl ?_ (by assumption) ?_; rotate_left; · (intro w' hSw; (try dsimp only at hSw); go_simp; (try with_reducible rfl))) | (refine take_off (i := 0) rfl (by kernel_rfl) (by kernel_rfl) (by kernel_rfl) (fun _ _ _ h => h) rfl (by assumption) ?_)
              (try simp only [Act.put, List.setIfInBounds_toArray, List.set_cons_zero, List.set_cons_succ])
              first | (refine take_on (i := 1) (v := ?_) rfl (by kernel_rfl) (by kernel_rfl) (by kernel_rfl) (fun _ _ _ h => h) rfl ?_ (by assumption) ?_; rotate_left; · (intro w' hSw; (try dsimp only at hSw); go_simp; (try with_reducible rfl))) | (refine take_off (i := 1) rfl (by kernel_rfl) (by kernel_rfl) (by kernel_rfl) (fun _ _ _ h => h) rfl (by assumption) ?_)
              (try simp only [Act.put, List.setIfInBounds_toArray, List.set_cons_zero, List.set_cons_succ])
              first | (refine take_on (i := 2) (v := ?_) rfl (by kernel_rfl) (by kernel_rfl) (by kernel_rfl) (fun _ _ _ h => h) rfl ?_ (by assumption) ?_; rotate_left; · (intro w' hSw; (try dsimp only at hSw); go_simp; (try with_reducible rfl))) | (refine take_off (i := 2) rfl (by kernel_rfl) (by kernel_rfl) (by kernel_rfl) (fun _ _ _ h => h) rfl (by assumption) ?_)
              (try simp only [Act.put, List.setIfInBounds_toArray, List.set_cons_zero, List.set_cons_succ])
              first | (refine take_on (i := 3) (v := ?_) rfl (by kernel_rfl) (by kernel_rfl) (by kernel_rfl) (fun _ _ _ h => h) rfl ?_ (by assumption) ?_; rotate_left; · (intro w' hSw; (try dsimp only at hSw); go_simp; (try with_reducible rfl))) | (refine take_off (i := 3) rfl (by kernel_rfl) (by kernel_rfl) (by kernel_rfl) (fun _ _ _ h => h) rfl (by assumption) ?_)
              (try simp only [Act.put, List.setIfInBounds_toArray, List.set_cons_zero, List.set_cons_succ])
              first | (refine take_on (i := 4) (v := ?_) rfl (by kernel_rfl) (by kernel_rfl) (by kernel_rfl) (fun _ _ _ h => h) rfl ?_ (by assumption) ?_; rotate_left; · (intro w' hSw; (try dsimp only at hSw); go_simp; (try with_reducible rfl))) | (refine take_off (i := 4) rfl (by kernel_rfl) (by kernel_rfl) (by kernel_rfl) (fun _ _ _ h => h) rfl (by assumption) ?_)
              (try simp only [Act.put, List.setIfInBounds_toArray, List.set_cons_zero, List.set_cons_succ])
              first | (refine take_on (i := 5) (v := ?_) rfl (by kernel_rfl) (by kernel_rfl) (by kernel_rfl) (fun _ _ _ h => h) rfl ?_ (by assumption) ?_; rotate_left; · (intro w' hSw; (try dsimp only at hSw); go_simp; (try with_reducible rfl))) | (refine take_off (i := 5) rfl (by kernel_rfl) (by kernel_rfl) (by kernel_rfl) (fun _ _ _ h => h) rfl (by assumption) ?_)
              (try simp only [Act.put, List.setIfInBounds_toArray, List.set_cons_zero, List.set_cons_succ])
              first | (refine take_on (i := 6) (v := ?_) rfl (by kernel_rfl) (by kernel_rfl) (by kernel_rfl) (fun _ _ _ h => h) rfl ?_ (by assumption) ?_; rotate_left; · (intro w' hSw; (try dsimp only at hSw); go_simp; (try with_reducible rfl))) | (refine take_off (i := 6) rfl (by kernel_rfl) (by kernel_rfl) (by kernel_rfl) (fun _ _ _ h => h) rfl (by assumption) ?_)
              (try simp only [Act.put, List.setIfInBounds_toArray, List.set_cons_zero, List.set_cons_succ])
              first | (refine take_on (i := 7) (v := ?_) rfl (by kernel_rfl) (by kernel_rfl) (by kernel_rfl) (fun _ _ _ h => h) rfl ?_ (by assumption) ?_; rotate_left; · (intro w' hSw; (try dsimp only at hSw); go_simp; (try with_reducible rfl))) | (refine take_off (i := 7) rfl (by kernel_rfl) (by kernel_rfl) (by kernel_rfl) (fun _ _ _ h => h) rfl (by assumption) ?_)
              (try simp only [Act.put, List.setIfInBounds_toArray, List.set_cons_zero, List.set_cons_succ])
              first | (refine take_on (i := 8) (v := ?_) rfl (by kernel_rfl) (by kernel_rfl) (by kernel_rfl) (fun _ _ _ h => h) rfl ?_ (by assumption) ?_; rotate_left; · (intro w' hSw; (try dsimp only at hSw); go_simp; (try with_reducible rfl))) | (refine take_off (i := 8) rfl (by kernel_rfl) (by kernel_rfl) (by kernel_rfl) (fun _ _ _ h => h) rfl (by assumption) ?_)
              (try simp only [Act.put, List.setIfInBounds_toArray, List.set_cons_zero, List.set_cons_succ])
              refine wpAnyH_ready (rs := [9]) (by kernel_rfl) (by simp) ?_
              refine AllReadyH.cons rfl (fun K hK => ?_) AllReadyH.nil
              rw [if_pos (by rfl)]
              go_simp
              go_at_call 58
              refine (HRR.out _).mono ?_
              rintro e w4 ⟨rfl, hb4⟩
              have hB4 : Below wr.heap.size wr w4 := Below.next (by go_grown) hb4
              refine hK.out _ _ ?_ (fun hHeld2 => ?_)
              · (try dsimp only); exact SB.mk hB4
              clear hK K hHeld; have hHeld := hHeld2; clear hHeld2; (try simp only [Act.put, List.setIfInBounds_toArray, List.set_cons_zero, List.set_cons_succ])
              first | (refine take_on (i := 10) (v := ?_) rfl (by kernel_rfl) (by kernel_rfl) (by kernel_rfl) (fun _ _ _ h => h) rfl ?_ (by assumption) ?_; rotate_left; · (intro w' hSw; (try dsimp only at hSw); go_simp; (try with_reducible rfl))) | (refine take_off (i := 10) rfl (by kernel_rfl) (by kernel_rfl) (by kernel_rfl) (fun _ _ _ h => h) rfl (by assumption) ?_)
              (try simp only [Act.put, List.setIfInBounds_toArray, List.set_cons_zero, List.set_cons_succ])
              first | (refine take_on (i := 11) (v := ?_) rfl (by kernel_rfl) (by kernel_rfl) (by kernel_rfl) (fun _ _ _ h => h) rfl ?_ (by assumption) ?_; rotate_left; · (intro w' hSw; (try dsimp only at hSw); go_simp; (try with_reducible rfl))) | (refine take_off (i := 11) rfl (by kernel_rfl) (by kernel_rfl) (by kernel_rfl) (fun _ _ _ h => h) rfl (by assumption) ?_)
              (try simp only [Act.put, List.setIfInBounds_toArray, List.set_cons_zero, List.set_cons_succ])
              first | (refine take_on (i := 12) (v := ?_) rfl (by kernel_rfl) (by kernel_rfl) (by kernel_rfl) (fun _ _ _ h => h) rfl ?_ (by assumption) ?_; rotate_left; · (intro w' hSw; (try dsimp only at hSw); go_simp; (try with_reducible rfl))) | (refine take_off (i := 12) rfl (by kernel_rfl) (by kernel_rfl) (by kernel_rfl) (fun _ _ _ h => h) rfl (by assumption) ?_)
              (try simp only [Act.put, List.setIfInBounds_toArray, List.set_cons_zero, List.set_cons_succ])
              first | (refine take_on (i := 13) (v := ?_) rfl (by kernel_rfl) (by kernel_rfl) (by kernel_rfl) (fun _ _ _ h => h) rfl ?_ (by assumption) ?_; rotate_left; · (intro w' hSw; (try dsimp only at hSw); go_simp; (try with_reducible rfl))) | (refine take_off (i := 13) rfl (by kernel_rfl) (by kernel_rfl) (by kernel_rfl) (fun _ _ _ h => h) rfl (by assumption) ?_)
              (try simp only [Act.put, List.setIfInBounds_toArray, List.set_cons_zero, List.set_cons_succ])
              first | (refine take_on (i := 14) (v := ?_) rfl (by kernel_rfl) (by kernel_rfl) (by kernel_rfl) (fun _ _ _ h => h) rfl ?_ (by assumption) ?_; rotate_left; · (intro w' hSw; (try dsimp only at hSw); go_simp; (try with_reducible rfl))) | (refine take_off (i := 14) rfl (by kernel_rfl) (by kernel_rfl) (by kernel_rfl) (fun _ _ _ h => h) rfl (by assumption) ?_)
              (try simp only [Act.put, List.setIfInBounds_toArray, List.set_cons_zero, List.set_cons_succ])
              first | (refine take_on (i := 15) (v := ?_) rfl (by kernel_rfl) (by kernel_rfl) (by kernel_rfl) (fun _ _ _ h => h) rfl ?_ (by assumption) ?_; rotate_left; · (intro w' hSw; (try dsimp only at hSw); go_simp; (try with_reducible rfl))) | (refine take_off (i := 15) rfl (by kernel_rfl) (by kernel_rfl) (by kernel_rfl) (fun _ _ _ h => h) rfl (by assumption) ?_)
              (try simp only [Act.put, List.setIfInBounds_toArray, List.set_cons_zero, List.set_cons_succ])
              first | (refine take_on (i := 16) (v := ?_) rfl (by kernel_rfl) (by kernel_rfl) (by kernel_rfl) (fun _ _ _ h => h) rfl ?_ (by assumption) ?_; rotate_left; · (intro w' hSw; (try dsimp only at hSw); go_simp; (try with_reducible rfl))) | (refine take_off (i := 16) rfl (by kernel_rfl) (by kernel_rfl) (by kernel_rfl) (fun _ _ _ h => h) rfl (by assumption) ?_)
              (try simp only [Act.put, List.setIfInBounds_toArray, List.set_cons_zero, List.set_cons_succ])
              refine wpAnyH_done (by kernel_rfl) ?_ _
              clear hHeld
              have hz4 := hB4.size
              have hbk4 := HBK.out.next hB4
              obtain ⟨⟨d0, k0⟩, ⟨d1, k1⟩, d2, k2⟩ := bk3 hbk4
              have hlt4 := hbk4.lt
              clear HO c0 c1 c2 f0 f1 f2
              go_wp2_with fail
              refine bodyPost_ret (by simp [results, Tryz.results38, go_sem, *]; try rfl) rfl ?_
              exact ⟨none, 0, 0, [], q, true, rfl, rfl, Own.nil _ _ _ _ _, hbk4.put 2 _, hq, (((HA1.out.trans (HAP.out.mono hz1)).then hB4 (by omega)).set _ _), .inr ⟨rfl, .inr HNO.out⟩⟩
        · obtain rfl : c = 0 := by omega
          obtain rfl : j = m := by omega
          obtain ⟨A2, c9, hv2, _, _, hrd⟩ := HO.out.rd
          rw [HLJ.out] at hv2 hrd
          subst hv2
          have HRD := Lib.hid hrd
          obtain ⟨L, hL⟩ : ∃ L, (fromR l).1 = L := ⟨_, rfl⟩
          obtain ⟨N, hN⟩ : ∃ N, L.length = N := ⟨_, rfl⟩
          have HN := Lib.hid hN
          clear hrd hN
          rcases fromR_code l with hcode | hcode
          all_goals
            have HR : Hid (fromR l = (L, _)) := Prod.ext hL hcode
            clear hcode
            go_wp2_with fail
            refine (iFromResiduals A2 j c9 N _ l L _ HRD.out HLJ.out (by omega) HR.out HN.out).mono ?_
            rintro e w5 ⟨A5, c5, rfl, hown5, hb5⟩
            have hz5 := hb5.size
            have hbk5 := HBK.out.next hb5
            obtain ⟨⟨d0, k0⟩, ⟨d1, k1⟩, d2, k2⟩ := bk3 hbk5
            have hlt5 := hbk5.lt
            have HO5 := Lib.hid (hown5.setCell ⟨b, 2, none⟩ (.bool true) (fun k hk => by have h1 := (hown5.lt k hk).1; simp only [ne_eq]; omega))
            have HO6 := Lib.hid (hown5.setCell ⟨b, 2, none⟩ (.bool false) (fun k hk => by have h1 := (hown5.lt k hk).1; simp only [ne_eq]; omega))
            clear hown5 c0 c1 c2 f0 f1 f2
            go_wp2_with fail
            refine bodyPost_ret (by simp [results, Tryz.results38, go_sem, *]; try rfl) rfl ?_
            first
              | exact ⟨A5, c5, N, L, q, false, rfl, HN.out, HO6.out.mono (by omega), hbk5.put 2 _, hq, (((HA1.out.trans (HAP.out.mono hz1)).then hb5 (by omega)).set _ _), .inl ⟨rfl, rfl, colI_yes HNUM.out hk HRI.out HR.out⟩⟩
              | exact ⟨A5, c5, N, L, q, true, rfl, HN.out, HO5.out.mono (by omega), hbk5.put 2 _, hq, (((HA1.out.trans (HAP.out.mono hz1)).then hb5 (by omega)).set _ _), .inr ⟨rfl, .inr (colI_from HNUM.out HRI.out HR.out)⟩⟩
    · have hk2 : (v : Int) > 12 := by omega
      go_wp2_with fail
      refine bodyPost_ret (by simp [results, Tryz.results38, go_sem, *]; try rfl) rfl ?_
      exact ⟨none, 0, 0, [], p, true, rfl, rfl, Own.nil _ _ _ _ _, HB1.out.put 2 _, hp, HA1.out.set _ _, .inr ⟨rfl, .inr (colI_k HNUM.out hk)⟩⟩
  · go_wp2_with fail
    refine bodyPost_ret (by simp [results, Tryz.results38, go_sem, *]; try rfl) rfl ?_
    exact ⟨none, 0, 0, [], p, true, rfl, rfl, Own.nil _ _ _ _ _, HB1.out.put 2 _, hp, HA1.out.set _ _, .inr ⟨rfl, HG1.out.bad.imp id colI_num⟩⟩
end Go.Proofs.YtinlhigpmchiaaaGreatDoor
