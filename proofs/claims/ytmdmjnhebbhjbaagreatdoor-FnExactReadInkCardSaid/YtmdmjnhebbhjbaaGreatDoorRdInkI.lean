/-
  The program's reading of an ink's text.
-/
import Derived.Test.YtmdmjnhebbhjbaaGreatDoorRdInkP
import Derived.Test.YtmdmjnhebbhjbaaGreatDoorInkMka
namespace Go.Proofs.YtmdmjnhebbhjbaaGreatDoor
set_option linter.unusedSimpArgs false
set_option linter.unusedVariables false
set_option maxRecDepth 20000
open Go.RowKit
open Go.ChangeShapes Go.WideShapes Go.Deep Go.Joins

set_option maxHeartbeats 4000000 in
theorem iReadInk_any (s : ByteArray) (hs : s.size ≤ 1048576) (P : List (List Pt)) (b : Bool) (N : Nat) (hR : Hid (readI s.data.toList = (P, b))) (hN : Hid (P.length = N)) (w : World) (hm : MaxIs w) (ht : Tab10 w) (he : ErrIs w) :
    Calls Tryz.prog 12 #[.string s] w fun e w' => ∃ A2 c2 T, e = .returned (.tuple #[.agg #[.slice A2 N c2], .bool b]) ∧ ptsOf T = P ∧ InkOwn w' w.heap.size w'.heap.size (.slice A2 N c2) T ∧ Below w.heap.size w w' := by
  have HM := Lib.hid hm
  have HT := Lib.hid ht
  have HE := Lib.hid he
  have hsl : s.data.toList.length = s.size := Array.length_toList
  have HR0 : Hid (Bk (w.alloc (.cells #[.slice none 0 0] 34)) w.heap.size 34 #[.slice none 0 0]) := Bk.new w _ _
  clear hm ht he
  cases hD : linesD s.data.toList with
  | none =>
    have h2 := hR.out
    rw [readI_lines hD] at h2
    obtain ⟨e1, e2⟩ : [] = P ∧ false = b := by injection h2 with e1 e2; exact ⟨e1, e2⟩
    subst e1; subst e2
    obtain rfl : 0 = N := hN.out
    clear h2
    have HL : Hid (linesB s = ([], false)) := linesB_none hD
    clear hD
    go_enter Tryz.func12, Tryz.ntmps12
    go_wp2_with fail
    refine (linesOf_any s hs false [] 0 HL rfl _ (HM.out.below (by go_grown))).mono ?_
    rintro e w2 ⟨A, c, rfl, _, hb2⟩
    have hT2 : Below w.heap.size w w2 := Below.next (by go_grown) hb2
    have HR2 := Lib.hid (HR0.out.next hb2)
    obtain ⟨er, fr⟩ := bk1 HR2.out
    have hgr := HR2.out.lt
    clear hb2
    go_wp2_with fail
    refine bodyPost_ret (by simp [results, Tryz.results12, go_sem, *]; try rfl) rfl ?_
    exact ⟨none, 0, [], rfl, rfl, InkOwn.nil _ _ _, by have hT9 := hT2; go_grown⟩
  | some L =>
    obtain ⟨n, hn⟩ : ∃ n, L.length = n := ⟨_, rfl⟩
    obtain ⟨hb1, hb2⟩ := linesD_bd hD (by omega)
    have HL : Hid (linesB s = (L.map bs, true)) := linesB_of hD
    have HLN : Hid ((L.map bs).length = n) := by rw [Hid, List.length_map, hn]
    have HD := Lib.hid hD
    have HLB := Lib.hid hb2
    have LN := Lib.hid hn
    rw [hn] at hb1
    clear hD hb2 hn
    go_enter Tryz.func12, Tryz.ntmps12
    go_wp2_with fail
    refine (linesOf_any s hs true (L.map bs) n HL HLN _ (HM.out.below (by go_grown))).mono ?_
    rintro e w2 ⟨A, c, rfl, hrd, hb2⟩
    have hT2 : Below w.heap.size w w2 := Below.next (by go_grown) hb2
    have HR2 := Lib.hid (HR0.out.next hb2)
    have HRD := Lib.hid hrd
    have hgr2 := HR2.out.lt
    clear hb2 hrd
    go_wp2_with fail
    go_loopw [23] (fun i wo => ∃ (k : Nat) (v : Value) (T : List St) (P' : List (List Pt)), k ≤ n ∧ i = .int .i64 (k : Int) ∧ Bk wo w2.heap.size 34 #[v] ∧ Hid (T.length = k) ∧ Hid (ptsOf T = P') ∧ Hid (allM (lineM iPt) (L.take k) = some P') ∧ Hid (InkOwn wo (w2.heap.size + 1) wo.heap.size v T) ∧ Below w2.heap.size (w2.alloc (.cells #[.slice none 0 0] 34)) wo) (fun i _ => n - (intOf i).toNat)
    case atStart => exact ⟨0, .slice none 0 0, [], [], Nat.zero_le _, rfl, Bk.new w2 _ _, rfl, rfl, rfl, InkOwn.nil _ _ _, Below.refl _ _⟩
    case round =>
      obtain ⟨wo, rfl⟩ : ∃ wo, wo = wr := ⟨wr, rfl⟩
      obtain ⟨k, v, T, P', hk, rfl, hbk, hT, hpt, hall, hin, hW⟩ := hrel
      have hWs := hW.size
      simp only [World.size_alloc] at hWs
      have hWd : Below w2.heap.size w2 wo := ((Below.refl _ _).alloc (Nat.le_refl _) _).trans hW
      have hW0 : Below w.heap.size w wo := Below.next hT2 hWd
      have hW0s := hW0.size
      obtain ⟨eo, fo⟩ := bk1 hbk
      have hgl := hbk.lt
      have HRo := Lib.hid (HR2.out.next hWd)
      by_cases hlt : k < n
      · have kL : k < L.length := by rw [LN.out]; exact hlt
        have kB : k < (L.map bs).length := by rw [HLN.out]; exact hlt
        obtain ⟨x, hx⟩ : ∃ x, (L.map bs)[k] = x := ⟨_, rfl⟩
        have hxl : x.data.toList = L[k] := by rw [← hx, List.getElem_map, bs_list]
        have hxs : x.size ≤ 1048575 := by
          have h1 := HLB.out _ (List.getElem_mem kL)
          rw [← hxl] at h1
          have h3 : x.data.toList.length = x.size := Array.length_toList
          omega
        obtain ⟨b1, o1, e1, l1, hc1⟩ := (HRD.out.below hWd).at sC_len HLN.out kB
        rw [hx] at hc1
        have a1 : wo.cell? ⟨b1, o1 + k, none⟩ = some (.string x) := by simpa using hc1 0 _ rfl
        have hk0 : (0 : Int) ≤ (k : Int) := by omega
        have hkn : (k : Int) < (n : Int) := by omega
        have HXL := Lib.hid hxl
        obtain ⟨m, hm⟩ : ∃ m, (splitBs 32 x).length = m := ⟨_, rfl⟩
        have HM1 := Lib.hid hm
        have HM2 : Hid ((splitL 32 L[k]).length = m) := by rw [Hid, ← hm, ← hxl]; unfold splitBs; rw [List.length_map]
        have hmb : m ≤ 1048576 := by have := splitBs_len 32 x; omega
        have HI0 : Hid (Bk (wo.alloc (.cells #[.slice none 0 0] 57)) wo.heap.size 57 #[.slice none 0 0]) := Bk.new wo _ _
        subst e1
        clear hc1 hx hxl hm
        go_wp2_with fail
        refine (wordsOf_any x m _ HM1 (by omega) (HM.out.below (by have h9 := hW0; go_grown))).mono ?_
        rintro e w3 ⟨gw, cw, rfl, hgw, hrw, hb3⟩
        (try simp only [World.size_alloc] at hgw)
        have hB3 : Below wo.heap.size wo w3 := Below.next (by go_grown) hb3
        have hB3a : Below wo.heap.size (wo.alloc (.cells #[.slice none 0 0] 57)) w3 := hb3.mono (by simp)
        have HW3 := Lib.hid hrw
        have HI3 := Lib.hid (HI0.out.next hb3)
        have hz3 := HI3.out.lt
        clear hb3 hrw
        go_wp2_with fail
        go_loopw [30] (fun i wr => ∃ (j : Nat) (u : Value) (q : List Pt), j ≤ m ∧ i = .int .i64 (j : Int) ∧ Bk wr wo.heap.size 57 #[u] ∧ Hid (q.length = j) ∧ Hid (allM iPt ((splitL 32 L[k]).take j) = some q) ∧ Own ptC 61 3 wr w3.heap.size u q ∧ Apart wo.heap.size w3.heap.size w3 wr) (fun i _ => m - (intOf i).toNat)
        case atStart => exact ⟨0, .slice none 0 0, [], Nat.zero_le _, rfl, HI3.out, rfl, rfl, Own.nil _ _ _ _ _, Apart.refl _ _ _⟩
        case round =>
          obtain ⟨j, u, q, hj, rfl, hbk2, hql, hq, hown, hB⟩ := hrel
          have hgl2 := hbk2.lt
          have hBs := hB.size
          have HO := Lib.hid hown
          have HI : Hid (∀ k, u.ownBlock = some k → w3.heap.size ≤ k ∧ k < wr.heap.size) := hown.lt
          obtain ⟨e0, f0⟩ := bk1 hbk2
          clear hown
          have hB0 : Below wo.heap.size wo wr := hB3.trans (hB.below (Nat.le_refl _) hB3.size)
          have hWr : Below w.heap.size w wr := hW0.trans (hB0.mono (by omega))
          by_cases hjlt : j < m
          · have jB : j < (splitBs 32 x).length := by rw [HM1.out]; exact hjlt
            have jL : j < (splitL 32 L[k]).length := by rw [HM2.out]; exact hjlt
            obtain ⟨y, hy⟩ : ∃ y, (splitBs 32 x)[j] = y := ⟨_, rfl⟩
            have hyl : y.data.toList = (splitL 32 L[k])[j] := by rw [← hy]; exact split_at HXL.out jB jL
            have hys : y.size ≤ 1048576 := by
              have h1 := split_size (List.getElem_mem jB)
              rw [hy] at h1
              omega
            obtain ⟨b2, o2, e2, l2, hc2⟩ := HW3.out.at sC_len HM1.out jB
            rw [hy] at hc2
            injection e2 with e2
            injection e2 with e2 e3
            subst e2; subst e3
            simp only [Nat.zero_add] at hc2
            have a2 : wr.cell? ⟨gw, j, none⟩ = some (.string y) := (hB.cell l2 (by omega)).trans (by simpa using hc2 0 _ rfl)
            have hj0 : (0 : Int) ≤ (j : Int) := by omega
            have hjn : (j : Int) < (m : Int) := by omega
            obtain ⟨R, hRr⟩ : ∃ R, numsD y.data.toList = R := ⟨_, rfl⟩
            obtain ⟨nr, hnr⟩ : ∃ nr, R.length = nr := ⟨_, rfl⟩
            have HRr := Lib.hid hRr
            have HNr := Lib.hid hnr
            have HYL := Lib.hid hyl
            clear hc2 hy hyl hRr hnr
            by_cases h3 : nr = 3
            · subst h3
              obtain ⟨za, zb, zc, e3⟩ := len3 HNr.out
              subst e3
              have hnx : Hid (allM iPt ((splitL 32 L[k]).take (j + 1)) = some (q ++ [⟨za, zb, zc⟩])) := allM_take hq.out jL (by rw [← HYL.out]; exact iPt_yes HRr.out)
              have hql2 : Hid ((q ++ [(⟨za, zb, zc⟩ : Pt)]).length = j + 1) := by rw [Hid, List.length_append, hql.out]; rfl
              go_wp2_with fail
              refine (numbersOf_any y 3 [za, zb, zc] _ HRr HNr hys (HM.out.below hWr) (HT.out.below hWr) (HE.out.below hWr)).mono ?_
              rintro e w4 ⟨A4, c4, rfl, hown4, hb4⟩
              have hB4 : Apart wo.heap.size w3.heap.size w3 w4 := hB.trans (Apart.of_below (hb4.mono (by omega)))
              have hz4 := hb4.size
              have HO4 := Lib.hid (HO.out.next hb4)
              have hbk4 : Bk w4 wo.heap.size 57 #[u] := hbk2.next hb4
              obtain ⟨e4, f4⟩ := bk1 hbk4
              have hgl4 := hbk4.lt
              obtain ⟨A5, c5, hv4, _, _, hrd4⟩ := hown4.rd
              injection hv4 with hA4 _ _
              subst hA4
              obtain ⟨g4, o4, rfl, l4, x0⟩ := hrd4.at iC_len rfl (show 0 < 3 by omega)
              obtain ⟨_, _, ee, _, x1⟩ := hrd4.at iC_len rfl (show 1 < 3 by omega)
              cases ee
              obtain ⟨_, _, ee, _, x2⟩ := hrd4.at iC_len rfl (show 2 < 3 by omega)
              cases ee
              have y0 : w4.cell? ⟨g4, o4, none⟩ = some (.int .i64 za) := by simpa using x0 0 _ rfl
              have y1 : w4.cell? ⟨g4, o4 + 1, none⟩ = some (.int .i64 zb) := by simpa using x1 0 _ rfl
              have y2 : w4.cell? ⟨g4, o4 + 2, none⟩ = some (.int .i64 zc) := by simpa using x2 0 _ rfl
              have hg4 : wr.heap.size ≤ g4 := (hown4.lt g4 (by simp [Value.ownBlock])).1
              have hu4 : ¬ u.ownBlock = some g4 := fun e => by have h2 := HI.out _ e; omega
              have hn4 : ¬ g4 = wo.heap.size := by omega
              clear x0 x1 x2 hrd4 hown4 hb4 a1 a2
              go_wp2_with fail
              refine wp_region_held_drew (S := (fun w' => (∀ kb ko, kb < w4.heap.size → ¬ u.ownBlock = some kb → ¬ kb = wo.heap.size → w'.cell? ⟨kb, ko, none⟩ = w4.cell? ⟨kb, ko, none⟩) ∧ w4.heap.size ≤ w'.heap.size ∧ Apart wo.heap.size w3.heap.size w4 w')) (by kernel_rfl) ?_ (fun hHeld => ?_)
              · (try dsimp only); exact S5.mk ((Below.refl _ _).drew) (by omega)
              first | (refine take_on (i := 0) (v := ?_) rfl (by kernel_rfl) (by kernel_rfl) (by kernel_rfl) (fun _ _ _ h => h) rfl ?_ (by assumption) ?_; rotate_left; · (intro w' hSw; (try dsimp only at hSw); go_simp; (try with_reducible rfl))) | (refine take_off (i := 0) rfl (by kernel_rfl) (by kernel_rfl) (by kernel_rfl) (fun _ _ _ h => h) rfl (by assumption) ?_)
              (try simp only [Act.put, List.setIfInBounds_toArray, List.set_cons_zero, List.set_cons_succ])
              first | (refine take_on (i := 2) (v := ?_) rfl (by kernel_rfl) (by kernel_rfl) (by kernel_rfl) (fun _ _ _ h => h) rfl ?_ (by assumption) ?_; rotate_left; · (intro w' hSw; (try dsimp only at hSw); go_simp; (try with_reducible rfl))) | (refine take_off (i := 2) rfl (by kernel_rfl) (by kernel_rfl) (by kernel_rfl) (fun _ _ _ h => h) rfl (by assumption) ?_)
              (try simp only [Act.put, List.setIfInBounds_toArray, List.set_cons_zero, List.set_cons_succ])
              first | (refine take_on (i := 3) (v := ?_) rfl (by kernel_rfl) (by kernel_rfl) (by kernel_rfl) (fun _ _ _ h => h) rfl ?_ (by assumption) ?_; rotate_left; · (intro w' hSw; (try dsimp only at hSw); go_simp; (try with_reducible rfl))) | (refine take_off (i := 3) rfl (by kernel_rfl) (by kernel_rfl) (by kernel_rfl) (fun _ _ _ h => h) rfl (by assumption) ?_)
              (try simp only [Act.put, List.setIfInBounds_toArray, List.set_cons_zero, List.set_cons_succ])
              first | (refine take_on (i := 4) (v := ?_) rfl (by kernel_rfl) (by kernel_rfl) (by kernel_rfl) (fun _ _ _ h => h) rfl ?_ (by assumption) ?_; rotate_left; · (intro w' hSw; (try dsimp only at hSw); go_simp; (try with_reducible rfl))) | (refine take_off (i := 4) rfl (by kernel_rfl) (by kernel_rfl) (by kernel_rfl) (fun _ _ _ h => h) rfl (by assumption) ?_)
              (try simp only [Act.put, List.setIfInBounds_toArray, List.set_cons_zero, List.set_cons_succ])
              first | (refine take_on (i := 5) (v := ?_) rfl (by kernel_rfl) (by kernel_rfl) (by kernel_rfl) (fun _ _ _ h => h) rfl ?_ (by assumption) ?_; rotate_left; · (intro w' hSw; (try dsimp only at hSw); go_simp; (try with_reducible rfl))) | (refine take_off (i := 5) rfl (by kernel_rfl) (by kernel_rfl) (by kernel_rfl) (fun _ _ _ h => h) rfl (by assumption) ?_)
              (try simp only [Act.put, List.setIfInBounds_toArray, List.set_cons_zero, List.set_cons_succ])
              first | (refine take_on (i := 6) (v := ?_) rfl (by kernel_rfl) (by kernel_rfl) (by kernel_rfl) (fun _ _ _ h => h) rfl ?_ (by assumption) ?_; rotate_left; · (intro w' hSw; (try dsimp only at hSw); go_simp; (try with_reducible rfl))) | (refine take_off (i := 6) rfl (by kernel_rfl) (by kernel_rfl) (by kernel_rfl) (fun _ _ _ h => h) rfl (by assumption) ?_)
              (try simp only [Act.put, List.setIfInBounds_toArray, List.set_cons_zero, List.set_cons_succ])
              first | (refine take_on (i := 7) (v := ?_) rfl (by kernel_rfl) (by kernel_rfl) (by kernel_rfl) (fun _ _ _ h => h) rfl ?_ (by assumption) ?_; rotate_left; · (intro w' hSw; (try dsimp only at hSw); go_simp; (try with_reducible rfl))) | (refine take_off (i := 7) rfl (by kernel_rfl) (by kernel_rfl) (by kernel_rfl) (fun _ _ _ h => h) rfl (by assumption) ?_)
              (try simp only [Act.put, List.setIfInBounds_toArray, List.set_cons_zero, List.set_cons_succ])
              first | (refine take_on (i := 8) (v := ?_) rfl (by kernel_rfl) (by kernel_rfl) (by kernel_rfl) (fun _ _ _ h => h) rfl ?_ (by assumption) ?_; rotate_left; · (intro w' hSw; (try dsimp only at hSw); go_simp; (try with_reducible rfl))) | (refine take_off (i := 8) rfl (by kernel_rfl) (by kernel_rfl) (by kernel_rfl) (fun _ _ _ h => h) rfl (by assumption) ?_)
              (try simp only [Act.put, List.setIfInBounds_toArray, List.set_cons_zero, List.set_cons_succ])
              first | (refine take_on (i := 9) (v := ?_) rfl (by kernel_rfl) (by kernel_rfl) (by kernel_rfl) (fun _ _ _ h => h) rfl ?_ (by assumption) ?_; rotate_left; · (intro w' hSw; (try dsimp only at hSw); go_simp; (try with_reducible rfl))) | (refine take_off (i := 9) rfl (by kernel_rfl) (by kernel_rfl) (by kernel_rfl) (fun _ _ _ h => h) rfl (by assumption) ?_)
              (try simp only [Act.put, List.setIfInBounds_toArray, List.set_cons_zero, List.set_cons_succ])
              first | (refine take_on (i := 10) (v := ?_) rfl (by kernel_rfl) (by kernel_rfl) (by kernel_rfl) (fun _ _ _ h => h) rfl ?_ (by assumption) ?_; rotate_left; · (intro w' hSw; (try dsimp only at hSw); go_simp; (try with_reducible rfl))) | (refine take_off (i := 10) rfl (by kernel_rfl) (by kernel_rfl) (by kernel_rfl) (fun _ _ _ h => h) rfl (by assumption) ?_)
              (try simp only [Act.put, List.setIfInBounds_toArray, List.set_cons_zero, List.set_cons_succ])
              first | (refine take_on (i := 11) (v := ?_) rfl (by kernel_rfl) (by kernel_rfl) (by kernel_rfl) (fun _ _ _ h => h) rfl ?_ (by assumption) ?_; rotate_left; · (intro w' hSw; (try dsimp only at hSw); go_simp; (try with_reducible rfl))) | (refine take_off (i := 11) rfl (by kernel_rfl) (by kernel_rfl) (by kernel_rfl) (fun _ _ _ h => h) rfl (by assumption) ?_)
              (try simp only [Act.put, List.setIfInBounds_toArray, List.set_cons_zero, List.set_cons_succ])
              refine wpAnyH_ready (rs := [1, 12]) (by kernel_rfl) (by simp) ?_
              refine AllReadyH.cons rfl (fun K hK => ?_) (AllReadyH.cons rfl (fun K hK => ?_) (AllReadyH.nil))
              · rw [if_pos (by rfl)]
                go_simp
                refine hK.out _ _ ?_ (fun hHeld2 => ?_)
                · (try dsimp only); exact hHeld
                clear hK K hHeld; have hHeld := hHeld2; clear hHeld2; (try simp only [Act.put, List.setIfInBounds_toArray, List.set_cons_zero, List.set_cons_succ])
                refine wpAnyH_ready (rs := [12]) (by kernel_rfl) (by simp) ?_
                refine AllReadyH.cons rfl (fun K hK => ?_) AllReadyH.nil
                rw [if_pos (by rfl)]
                go_simp
                refine hK.out _ _ ?_ (fun hHeld2 => ?_)
                · (try dsimp only); exact S5.mk (by go_grown) (by omega)
                clear hK K hHeld; have hHeld := hHeld2; clear hHeld2; (try simp only [Act.put, List.setIfInBounds_toArray, List.set_cons_zero, List.set_cons_succ])
                refine wpAnyH_ready (rs := [13]) (by kernel_rfl) (by simp) ?_
                refine AllReadyH.cons rfl (fun K hK => ?_) AllReadyH.nil
                refine step_push elem_pt (by rfl) (.tmp 41) (.tmp 52) 55 (by rfl) Tryz.underlying55 w3.heap.size u q (⟨za, zb, zc⟩ : Pt) (by rfl) (HO4.out.alloc _) j hql.out w4.heap.size 1 (by rfl) (fun i u hu => ((Bk.new w4 #[.int .i64 za, .int .i64 zb, .int .i64 zc] 61).cell i).trans (by simpa [ptC] using hu)) (by unfold maxLen; omega) (by omega) (by simp only [World.size_drew, World.size_alloc]; omega) ?_
                intro g5 cap5 w5 hown5 hgrow5 hat5 hlt5 hkeep5
                have hbk5 : Bk w5 wo.heap.size 57 #[u] := (hgrow5.block _ (by simp only [World.size_drew, World.size_alloc]; omega) (fun e => by have h2 := HI.out _ e.symm; omega)).trans (hbk4.alloc _)
                obtain ⟨e5', f5⟩ := bk1 hbk5
                have hz5 := hgrow5.size
                simp only [World.size_drew, World.size_alloc] at hz5
                have hgl5 := hbk5.lt
                refine hK.out _ _ ?_ (fun hHeld2 => ?_)
                · (try dsimp only); exact S5.push hHeld hgrow5 (fun k hk => by have h2 := HI.out k hk; omega) (by simp only [World.size_drew, World.size_alloc]; omega)
                clear hK K hHeld; have hHeld := hHeld2; clear hHeld2; (try simp only [Act.put, List.setIfInBounds_toArray, List.set_cons_zero, List.set_cons_succ])
                first | (refine take_on (i := 14) (v := ?_) rfl (by kernel_rfl) (by kernel_rfl) (by kernel_rfl) (fun _ _ _ h => h) rfl ?_ (by assumption) ?_; rotate_left; · (intro w' hSw; (try dsimp only at hSw); go_simp; (try with_reducible rfl))) | (refine take_off (i := 14) rfl (by kernel_rfl) (by kernel_rfl) (by kernel_rfl) (fun _ _ _ h => h) rfl (by assumption) ?_)
                (try simp only [Act.put, List.setIfInBounds_toArray, List.set_cons_zero, List.set_cons_succ])
                refine wpAnyH_ready (rs := [15]) (by kernel_rfl) (by simp) ?_
                refine AllReadyH.cons rfl (fun K hK => ?_) AllReadyH.nil
                rw [if_pos (by rfl)]
                go_simp
                refine hK.out _ _ ?_ (fun hHeld2 => ?_)
                · (try dsimp only); exact S5.store hHeld _
                clear hK K hHeld; have hHeld := hHeld2; clear hHeld2; (try simp only [Act.put, List.setIfInBounds_toArray, List.set_cons_zero, List.set_cons_succ])
                refine wpAnyH_done (by kernel_rfl) ?_ _
                have hS := hHeld.2.2
                clear hHeld
                go_wp2_with fail
                go_roundw
                case rel =>
                  refine ⟨j + 1, _, q ++ [⟨za, zb, zc⟩], by omega, by go_num, bk1_put hbk5, hql2, hnx, ?_, ?_⟩
                  · exact hown5.setCell _ _ (fun k hk => by have h1 := hown5.lt k hk; simp only [ne_eq]; omega)
                  · exact hB4.trans hS
                case measure => (simp [intOf]; try omega)
              · rw [if_pos (by rfl)]
                go_simp
                refine hK.out _ _ ?_ (fun hHeld2 => ?_)
                · (try dsimp only); exact S5.mk (by go_grown) (by omega)
                clear hK K hHeld; have hHeld := hHeld2; clear hHeld2; (try simp only [Act.put, List.setIfInBounds_toArray, List.set_cons_zero, List.set_cons_succ])
                refine wpAnyH_ready (rs := [1]) (by kernel_rfl) (by simp) ?_
                refine AllReadyH.cons rfl (fun K hK => ?_) AllReadyH.nil
                rw [if_pos (by rfl)]
                go_simp
                refine hK.out _ _ ?_ (fun hHeld2 => ?_)
                · (try dsimp only); exact hHeld
                clear hK K hHeld; have hHeld := hHeld2; clear hHeld2; (try simp only [Act.put, List.setIfInBounds_toArray, List.set_cons_zero, List.set_cons_succ])
                refine wpAnyH_ready (rs := [13]) (by kernel_rfl) (by simp) ?_
                refine AllReadyH.cons rfl (fun K hK => ?_) AllReadyH.nil
                refine step_push elem_pt (by rfl) (.tmp 41) (.tmp 52) 55 (by rfl) Tryz.underlying55 w3.heap.size u q (⟨za, zb, zc⟩ : Pt) (by rfl) (HO4.out.alloc _) j hql.out w4.heap.size 1 (by rfl) (fun i u hu => ((Bk.new w4 #[.int .i64 za, .int .i64 zb, .int .i64 zc] 61).cell i).trans (by simpa [ptC] using hu)) (by unfold maxLen; omega) (by omega) (by simp only [World.size_drew, World.size_alloc]; omega) ?_
                intro g5 cap5 w5 hown5 hgrow5 hat5 hlt5 hkeep5
                have hbk5 : Bk w5 wo.heap.size 57 #[u] := (hgrow5.block _ (by simp only [World.size_drew, World.size_alloc]; omega) (fun e => by have h2 := HI.out _ e.symm; omega)).trans (hbk4.alloc _)
                obtain ⟨e5', f5⟩ := bk1 hbk5
                have hz5 := hgrow5.size
                simp only [World.size_drew, World.size_alloc] at hz5
                have hgl5 := hbk5.lt
                refine hK.out _ _ ?_ (fun hHeld2 => ?_)
                · (try dsimp only); exact S5.push hHeld hgrow5 (fun k hk => by have h2 := HI.out k hk; omega) (by simp only [World.size_drew, World.size_alloc]; omega)
                clear hK K hHeld; have hHeld := hHeld2; clear hHeld2; (try simp only [Act.put, List.setIfInBounds_toArray, List.set_cons_zero, List.set_cons_succ])
                first | (refine take_on (i := 14) (v := ?_) rfl (by kernel_rfl) (by kernel_rfl) (by kernel_rfl) (fun _ _ _ h => h) rfl ?_ (by assumption) ?_; rotate_left; · (intro w' hSw; (try dsimp only at hSw); go_simp; (try with_reducible rfl))) | (refine take_off (i := 14) rfl (by kernel_rfl) (by kernel_rfl) (by kernel_rfl) (fun _ _ _ h => h) rfl (by assumption) ?_)
                (try simp only [Act.put, List.setIfInBounds_toArray, List.set_cons_zero, List.set_cons_succ])
                refine wpAnyH_ready (rs := [15]) (by kernel_rfl) (by simp) ?_
                refine AllReadyH.cons rfl (fun K hK => ?_) AllReadyH.nil
                rw [if_pos (by rfl)]
                go_simp
                refine hK.out _ _ ?_ (fun hHeld2 => ?_)
                · (try dsimp only); exact S5.store hHeld _
                clear hK K hHeld; have hHeld := hHeld2; clear hHeld2; (try simp only [Act.put, List.setIfInBounds_toArray, List.set_cons_zero, List.set_cons_succ])
                refine wpAnyH_done (by kernel_rfl) ?_ _
                have hS := hHeld.2.2
                clear hHeld
                go_wp2_with fail
                go_roundw
                case rel =>
                  refine ⟨j + 1, _, q ++ [⟨za, zb, zc⟩], by omega, by go_num, bk1_put hbk5, hql2, hnx, ?_, ?_⟩
                  · exact hown5.setCell _ _ (fun k hk => by have h1 := hown5.lt k hk; simp only [ne_eq]; omega)
                  · exact hB4.trans hS
                case measure => (simp [intOf]; try omega)
            · have hno : Hid (inkM iPt s.data.toList = none) := lineM_none HD.out kL jL (by rw [← HYL.out]; exact iPt_no (by rw [HRr.out, HNr.out]; exact h3))
              have hne3 : ((nr : Int) != 3) = true := bne_iff_ne.2 (by omega)
              have h2 := hR.out
              rw [readI_none hno.out] at h2
              obtain ⟨e1, e2⟩ : [] = P ∧ false = b := by injection h2 with e1 e2; exact ⟨e1, e2⟩
              subst e1; subst e2
              obtain rfl : 0 = N := hN.out
              clear h2
              have HRr2 := Lib.hid (HRo.out.next hB0)
              go_wp2_with fail
              refine (numbersOf_any y nr R _ HRr HNr hys (HM.out.below hWr) (HT.out.below hWr) (HE.out.below hWr)).mono ?_
              rintro e w4 ⟨A4, c4, rfl, _, hb4⟩
              have hT4 : Below w.heap.size w w4 := hWr.trans (hb4.mono (by omega))
              have HR4 := Lib.hid (HRr2.out.next hb4)
              obtain ⟨er, fr⟩ := bk1 HR4.out
              have hgr := HR4.out.lt
              clear hb4
              go_wp2_with fail
              refine bodyPost_ret (by simp [results, Tryz.results12, go_sem, *]; try rfl) rfl ?_
              exact ⟨none, 0, [], rfl, rfl, InkOwn.nil _ _ _, by have hT9 := hT4; go_grown⟩
          · obtain rfl : j = m := by omega
            have HL2 : Hid (allM (lineM iPt) (L.take (k + 1)) = some (P' ++ [q])) := allM_take hall.out kL (by have h1 := hq.out; rw [List.take_of_length_le (by rw [HM2.out]; omega)] at h1; exact h1)
            obtain ⟨A2, c2, hu, hA2, hc2, _⟩ := HO.out.rd
            rw [hql.out] at hu
            subst hu
            have hbk3 : Bk wr w2.heap.size 34 #[v] := hbk.next hB0
            obtain ⟨eo3, fo3⟩ := bk1 hbk3
            have hgl3 := hbk3.lt
            have HIN := Lib.hid (hin.out.next hB0)
            have HVV : Hid (∀ k, v.ownBlock = some k → w2.heap.size + 1 ≤ k ∧ k < wo.heap.size) := fun k hk => ⟨(hin.out.row.lt k hk).1, (hin.out.row.lt k hk).2⟩
            have TL : Hid (T.length = k) := hT
            obtain ⟨s9, hs9⟩ : ∃ t9 : St, t9 = ⟨A2, c2, q⟩ := ⟨_, rfl⟩
            have hne : ¬ w2.heap.size = wo.heap.size := by omega
            have htv : s9.val = .slice A2 j c2 := by rw [hs9]; simp [St.val, hql.out]
            have htl : s9.l = q := by rw [hs9]
            have HTV := Lib.hid htv
            have HTL := Lib.hid htl
            clear hs9 htv htl hT
            go_wp2_with ((at_builtin; refine list_push elem_sk (by rfl) (.tmp 57) (.tmp 59) 32 (by rfl) Tryz.underlying32 (w2.heap.size + 1) v T s9 (by rfl) (HIN.out.row.alloc _) k TL.out wr.heap.size 1 (by rfl) (fun i u hu => ((Bk.new wr #[.slice A2 j c2] 57).cell i).trans (by have h1 := HTV.out; unfold skC at hu; rw [h1] at hu; simpa using hu)) (by unfold maxLen; omega) (by omega) (by simp only [World.size_alloc]; omega) ?_; intro g5 cap5 w5 hown5 hgrow5 hat5 hlt5 hkeep5; have hbk5 : Bk w5 w2.heap.size 34 #[v] := (hgrow5.block _ (by simp only [World.size_alloc]; omega) (fun e => by have h2 := HVV.out _ e.symm; omega)).trans (hbk3.alloc _); obtain ⟨e5, f5⟩ := bk1 hbk5; have hz5 := hgrow5.size; simp only [World.size_alloc] at hz5; have hgl5 := hbk5.lt))
            go_roundw
            case rel =>
              have hlow : w2.heap.size + 1 ≤ w3.heap.size := by omega
              have hink := InkOwn.push HIN.out (t := s9) (by rw [HTL.out, HTV.out]; exact (HO.out.mono hlow)) (fun b hb => by rw [HTV.out] at hb; have h1 := (HO.out.lt b hb).1; omega) hB0.size ((Below.refl _ _).alloc (Nat.le_refl _) _) hgrow5 hat5 hlt5 hown5
              refine ⟨k + 1, _, T ++ [s9], P' ++ [q], by omega, by go_num, bk1_put hbk5, by simp [Hid, TL.out], by rw [Hid, ptsOf_push hpt.out, HTL.out], HL2, ?_, ?_⟩
              · have hsz : (w5.setCell ⟨w2.heap.size, 0, none⟩ (.slice (some ⟨g5, 0, none⟩) (k + 1) cap5)).heap.size = w5.heap.size := by simp [World.setCell]
                rw [Hid, hsz]
                exact hink.keep fun j hj _ _ => Below.heap_setCell _ _ _ _ (by simp only [ne_eq]; omega)
              · have hG := hW.trans (hB0.mono (show w2.heap.size ≤ wo.heap.size by omega))
                have hG2 := (hG.alloc (show w2.heap.size ≤ wr.heap.size by omega) (.cells #[.slice A2 j c2] 57)).grown hgrow5 (by simp only [World.size_alloc]; omega) (fun b hb => by have h2 := HVV.out b hb; omega)
                exact hG2.setCell (Nat.le_refl _) _
            case measure => (simp [intOf]; try omega)
      · obtain rfl : k = n := by omega
        have HIN := Lib.hid hin.out
        have HA : Hid (allM (lineM iPt) L = some P') := by
          have h1 := hall.out
          rw [List.take_of_length_le (by rw [LN.out]; exact Nat.le_refl _)] at h1
          exact h1
        have hI := Lib.hid (inkM_all HD.out HA.out)
        have HEACH : Hid (∀ s ∈ T, s.l.length ≤ 1048576) := read_each HA.out hpt.out HLB.out
        obtain ⟨A2, c2, hv, _, _, _⟩ := hin.out.row.rd
        rw [hT.out] at hv
        subst hv
        have hRo : Bk wo w.heap.size 34 #[.slice none 0 0] := HRo.out
        obtain ⟨ev, fv⟩ := bk1 hbk
        clear hin
        go_wp2_with fail
        have hcv := validInk_any A2 k c2 T _ (HIN.out.rd hT.out) HEACH.out (by omega)
        rw [hpt.out] at hcv
        refine hcv.mono ?_
        rintro e w5 ⟨rfl, hb5⟩
        have hT5 : Below w.heap.size w w5 := Below.next hW0 hb5
        have hR5 := hRo.next hb5
        have hV5 := hbk.next hb5
        have HIN5 := Lib.hid (HIN.out.next hb5)
        obtain ⟨er, fr⟩ := bk1 hR5
        obtain ⟨ev5, fv5⟩ := bk1 hV5
        have hgr := hR5.lt
        have hgv := hV5.lt
        have hz5w := hb5.size
        clear hb5 hcv ev fv eo fo
        cases hv : inkB P'
        · have h2 := hR.out
          rw [readI_out hI.out hv] at h2
          obtain ⟨e1, e2⟩ : [] = P ∧ false = b := by injection h2 with e1 e2; exact ⟨e1, e2⟩
          subst e1; subst e2
          obtain rfl : 0 = N := hN.out
          clear h2
          go_wp2_with fail
          refine bodyPost_ret (by simp [results, Tryz.results12, go_sem, *]; try rfl) rfl ?_
          exact ⟨none, 0, [], rfl, rfl, InkOwn.nil _ _ _, by have hT9 := hT5; go_grown⟩
        · have HV := Lib.hid hv
          have hct := iInkText_any A2 k c2 T P' w5 (HIN5.out.rd hT.out) hpt.out HEACH.out (by omega) (HT.out.below hT5)
          have hx : txR P' = inkTx P' := by unfold txR; rw [hv]; rfl
          rw [hx] at hct
          obtain ⟨y, hy⟩ : ∃ y, bs (inkTx P') = y := ⟨_, rfl⟩
          rw [hy] at hct
          obtain ⟨v2, hv2⟩ : ∃ v2, (inkTx P' == s.data.toList) = v2 := ⟨_, rfl⟩
          have hys := inkTx_eq hy hv2
          have HV2 := Lib.hid hv2
          clear hv2 hy hx hv
          go_wp2_with fail
          refine hct.mono ?_
          rintro e w6 ⟨rfl, hb6⟩
          have hT6 : Below w.heap.size w w6 := Below.next hT5 hb6
          have hR6 := hR5.next hb6
          have hV6 := hV5.next hb6
          have HIN6 := Lib.hid (HIN5.out.next hb6)
          obtain ⟨er6, fr6⟩ := bk1 hR6
          obtain ⟨ev6, fv6⟩ := bk1 hV6
          have hgr6 := hR6.lt
          have hgv6 := hV6.lt
          have hz6w := hb6.size
          clear hb6 hct ev5 fv5 er fr
          cases v2
          · have h2 := hR.out
            rw [readI_other hI.out HV.out (fun e => by have h9 := HV2.out; rw [e] at h9; simp at h9)] at h2
            obtain ⟨e1, e2⟩ : [] = P ∧ false = b := by injection h2 with e1 e2; exact ⟨e1, e2⟩
            subst e1; subst e2
            obtain rfl : 0 = N := hN.out
            clear h2
            go_wp2_with fail
            refine bodyPost_ret (by simp [results, Tryz.results12, go_sem, *]; try rfl) rfl ?_
            exact ⟨none, 0, [], rfl, rfl, InkOwn.nil _ _ _, by have hT9 := hT6; go_grown⟩
          · have h2 := hR.out
            rw [readI_yes hI.out HV.out (by have h9 := HV2.out; simpa using h9)] at h2
            obtain ⟨e1, e2⟩ : P' = P ∧ true = b := by injection h2 with e1 e2; exact ⟨e1, e2⟩
            subst e1; subst e2
            obtain rfl : k = N := by rw [← hN.out, ← hpt.out, ptsOf_len]; exact hT.out.symm
            clear h2
            go_wp2_with fail
            refine bodyPost_ret (by simp [results, Tryz.results12, go_sem, *]; try rfl) rfl ?_
            refine ⟨A2, c2, T, rfl, hpt.out, ?_, by have hT9 := hT6; go_grown⟩
            have hsz : (w6.setCell ⟨w.heap.size, 0, none⟩ (.slice A2 k c2)).heap.size = w6.heap.size := by simp [World.setCell]
            rw [hsz]
            have hl1 := hT2.size
            exact ((HIN6.out.keep fun j hj _ _ => Below.heap_setCell _ _ _ _ (by simp only [ne_eq]; omega)).low (by omega)).upto2 (by omega)
end Go.Proofs.YtmdmjnhebbhjbaaGreatDoor
