/-
  The reference reads a line of an ink's text.
-/
import Derived.Test.YtmdmjnhebbhjbaaGreatDoorRdInkP
import Derived.Test.YtmdmjnhebbhjbaaGreatDoorInkMka
namespace Go.Proofs.YtmdmjnhebbhjbaaGreatDoor
set_option linter.unusedSimpArgs false
set_option linter.unusedVariables false
set_option maxRecDepth 20000
open Go.RowKit
open Go.ChangeShapes Go.WideShapes Go.Deep Go.Joins

set_option maxHeartbeats 4000000 in
theorem l02Line_any (s : ByteArray) (l : List UInt8) (hsl : s.data.toList = l) (hs : s.size ≤ 1048575) (q0 : List Pt) (b : Bool) (N : Nat) (hR : Hid ((match lineM sPt l with | none => ([], false) | some q => (q, true)) = (q0, b))) (hN : Hid (q0.length = N)) (w : World) :
    Calls Tryz.prog 74 #[.string s] w fun e w' => ∃ A2 c2, e = .returned (.tuple #[.agg #[.slice A2 N c2], .bool b]) ∧ Own ptC 61 3 w' w.heap.size (.slice A2 N c2) q0 ∧ Below w.heap.size w w' := by
  have HSL := Lib.hid hsl
  have HR0 : Hid (Bk ((w.alloc (.cells #[.slice none 0 0] 57)).alloc (.cells #[.slice none 0 0] 57)) w.heap.size 57 #[.slice none 0 0]) := (Bk.new w _ _).alloc _
  have HI0 : Hid (Bk ((w.alloc (.cells #[.slice none 0 0] 57)).alloc (.cells #[.slice none 0 0] 57)) (w.heap.size + 1) 57 #[.slice none 0 0]) := Bk.new1 w _ _ _
  obtain ⟨m, hm⟩ : ∃ m, (splitBs 32 s).length = m := ⟨_, rfl⟩
  have HM1 := Lib.hid hm
  have HM2 : Hid ((splitL 32 l).length = m) := by rw [Hid, ← hm, ← hsl]; unfold splitBs; rw [List.length_map]
  have hmb : m ≤ 1048576 := by have := splitBs_len 32 s; omega
  clear hsl hm
  go_enter Tryz.func74, Tryz.ntmps74
  go_wp2_with fail
  refine (l01Split_n s 32 m _ HM1.out (by omega)).mono ?_
  rintro e w2 ⟨Aw, cw, rfl, hown2, hb2⟩
  have hT2 : Below w.heap.size w w2 := Below.next (by go_grown) hb2
  have HR2 := Lib.hid (HR0.out.next hb2)
  have HI2 := Lib.hid (HI0.out.next hb2)
  have HW2 := Lib.hid (hown2.rdS HM1.out)
  have HWL : Hid (∀ b, (Value.slice Aw m cw).ownBlock = some b → w.heap.size + 1 < b ∧ b < w2.heap.size) := fun b hb => by have h1 := hown2.lt b hb; simp only [World.size_alloc] at h1; omega
  have hz2 := HI2.out.lt
  clear hown2 hb2
  go_wp2_with fail
  go_loopw [6] (fun i wr => ∃ (j : Nat) (u : Value) (q : List Pt), j ≤ m ∧ i = .int .i64 (j : Int) ∧ Bk wr (w.heap.size + 1) 57 #[u] ∧ Hid (q.length = j) ∧ Hid (allM sPt ((splitL 32 l).take j) = some q) ∧ Own ptC 61 3 wr w2.heap.size u q ∧ Apart (w.heap.size + 1) w2.heap.size w2 wr) (fun i _ => m - (intOf i).toNat)
  case atStart => exact ⟨0, .slice none 0 0, [], Nat.zero_le _, rfl, HI2.out, rfl, rfl, Own.nil _ _ _ _ _, Apart.refl _ _ _⟩
  case round =>
    obtain ⟨j, u, q, hj, rfl, hbk2, hql, hq, hown, hB⟩ := hrel
    have hgl2 := hbk2.lt
    have hBs := hB.size
    have HO := Lib.hid hown
    have HI : Hid (∀ k, u.ownBlock = some k → w2.heap.size ≤ k ∧ k < wr.heap.size) := hown.lt
    obtain ⟨e0, f0⟩ := bk1 hbk2
    clear hown
    have hWr : Below w.heap.size w wr := hT2.trans (hB.below (by omega) (by omega))
    by_cases hjlt : j < m
    · have jB : j < (splitBs 32 s).length := by rw [HM1.out]; exact hjlt
      have jL : j < (splitL 32 l).length := by rw [HM2.out]; exact hjlt
      obtain ⟨y, hy⟩ : ∃ y, (splitBs 32 s)[j] = y := ⟨_, rfl⟩
      have hyl : y.data.toList = (splitL 32 l)[j] := by rw [← hy]; exact split_at HSL.out jB jL
      have hys : y.size ≤ 1048575 := by
        have h1 := split_size (List.getElem_mem jB)
        rw [hy] at h1
        omega
      obtain ⟨b2, o2, e2, l2, hc2⟩ := HW2.out.at sC_len HM1.out jB
      rw [hy] at hc2
      subst e2
      have hb2w := HWL.out b2 (by simp [Value.ownBlock])
      have a2 : wr.cell? ⟨b2, o2 + j, none⟩ = some (.string y) := (hB.cell l2 (by omega)).trans (by simpa using hc2 0 _ rfl)
      have hj0 : (0 : Int) ≤ (j : Int) := by omega
      have hjn : (j : Int) < (m : Int) := by omega
      obtain ⟨nr, hnr⟩ : ∃ nr, (splitBs 44 y).length = nr := ⟨_, rfl⟩
      have HNr := Lib.hid hnr
      have HYL := Lib.hid hyl
      have HRr : Hid (Bk wr w.heap.size 57 #[.slice none 0 0]) := (hB.block _ (by omega) (by omega)).trans HR2.out
      clear hc2 hy hyl hnr
      go_wp2_with fail
      refine (l01Split_n y 44 nr _ HNr.out (by omega)).mono ?_
      rintro e w4 ⟨A4, c4, rfl, hown4, hb4⟩
      have hB4 : Apart (w.heap.size + 1) w2.heap.size w2 w4 := hB.trans (Apart.of_below (hb4.mono (by omega)))
      have hT4 : Below w.heap.size w w4 := hWr.trans (hb4.mono (by omega))
      have hz4 := hb4.size
      have HO4 := Lib.hid (HO.out.next hb4)
      have HR4 := Lib.hid (HRr.out.next hb4)
      have hbk4 : Bk w4 (w.heap.size + 1) 57 #[u] := hbk2.next hb4
      by_cases h3 : nr = 3
      · subst h3
        obtain ⟨ya, yb, yc, e3⟩ := len3 HNr.out
        have hya := split_size (c := 44) (s := y) (x := ya) (by rw [e3]; simp)
        have hyb := split_size (c := 44) (s := y) (x := yb) (by rw [e3]; simp)
        have hyc := split_size (c := 44) (s := y) (x := yc) (by rw [e3]; simp)
        have hL3 : splitL 44 (splitL 32 l)[j] = [ya.data.toList, yb.data.toList, yc.data.toList] := by
          rw [← HYL.out, ← splitBs_map, e3]
          rfl
        have hrd4 := hown4.rdS HNr.out
        rw [e3] at hrd4
        obtain ⟨g4, o4, rfl, l4, x0⟩ := hrd4.at (l := [ya, yb, yc]) sC_len rfl (show 0 < 3 by omega)
        obtain ⟨_, _, ee, _, x1⟩ := hrd4.at (l := [ya, yb, yc]) sC_len rfl (show 1 < 3 by omega)
        cases ee
        obtain ⟨_, _, ee, _, x2⟩ := hrd4.at (l := [ya, yb, yc]) sC_len rfl (show 2 < 3 by omega)
        cases ee
        have y0 : w4.cell? ⟨g4, o4, none⟩ = some (.string ya) := by simpa using x0 0 _ rfl
        have y1 : w4.cell? ⟨g4, o4 + 1, none⟩ = some (.string yb) := by simpa using x1 0 _ rfl
        have y2 : w4.cell? ⟨g4, o4 + 2, none⟩ = some (.string yc) := by simpa using x2 0 _ rfl
        have Y1 := Lib.hid y1
        have Y2 := Lib.hid y2
        obtain ⟨⟨za, ba⟩, hra⟩ : ∃ r, decR ya.data.toList = r := ⟨_, rfl⟩
        obtain ⟨⟨zb, bb⟩, hrb⟩ : ∃ r, decR yb.data.toList = r := ⟨_, rfl⟩
        obtain ⟨⟨zc, bc⟩, hrc⟩ : ∃ r, decR yc.data.toList = r := ⟨_, rfl⟩
        have hsp : sPt (splitL 32 l)[j] = if ba && (bb && bc) then some ⟨za, zb, zc⟩ else none := by
          unfold sPt
          rw [hL3]
          simp only [hra, hrb, hrc]
        have HSP := Lib.hid hsp
        have HA := Lib.hid (l01Number_any ya (by omega))
        have HB' := Lib.hid (l01Number_any yb (by omega))
        have HC := Lib.hid (l01Number_any yc (by omega))
        rw [hra] at HA
        rw [hrb] at HB'
        rw [hrc] at HC
        clear x0 x1 x2 hrd4 hown4 hb4 a2 e3 hL3 hra hrb hrc hsp
        clear y1 y2
        go_wp2_with fail
        refine (HA.out _).mono ?_
        rintro e w5 ⟨rfl, hb5⟩
        unfold decV
        have y1 : w5.cell? ⟨g4, o4 + 1, none⟩ = some (.string yb) := (hb5.cell (p := ⟨g4, o4 + 1, none⟩) l4).trans Y1.out
        have l5 : g4 < w5.heap.size := Nat.lt_of_lt_of_le l4 hb5.size
        have HO5 := Lib.hid (HO4.out.next hb5)
        have HR5 := Lib.hid (HR4.out.next hb5)
        have hbk5 := Lib.hid (hbk4.next hb5)
        have hB5 : Apart (w.heap.size + 1) w2.heap.size w2 w5 := hB4.trans (Apart.of_below (hb5.mono (by omega)))
        have hT5 : Below w.heap.size w w5 := Below.next hT4 hb5
        have Y2' : Hid (w5.cell? ⟨g4, o4 + 2, none⟩ = some (.string yc)) := (hb5.cell (p := ⟨g4, o4 + 2, none⟩) l4).trans Y2.out
        have hz5 := hb5.size
        clear hb5 y0
        go_wp2_with fail
        refine (HB'.out _).mono ?_
        rintro e w6 ⟨rfl, hb6⟩
        unfold decV
        have y2 : w6.cell? ⟨g4, o4 + 2, none⟩ = some (.string yc) := (hb6.cell (p := ⟨g4, o4 + 2, none⟩) l5).trans Y2'.out
        have l6 : g4 < w6.heap.size := Nat.lt_of_lt_of_le l5 hb6.size
        have HO6 := Lib.hid (HO5.out.next hb6)
        have HR6 := Lib.hid (HR5.out.next hb6)
        have hbk6 := Lib.hid (hbk5.out.next hb6)
        have hB6 : Apart (w.heap.size + 1) w2.heap.size w2 w6 := hB5.trans (Apart.of_below (hb6.mono (by omega)))
        have hT6 : Below w.heap.size w w6 := Below.next hT5 hb6
        have hz6 := hb6.size
        clear hb6 y1
        go_wp2_with fail
        refine (HC.out _).mono ?_
        rintro e w7 ⟨rfl, hb7⟩
        unfold decV
        have HO7 := Lib.hid (HO6.out.next hb7)
        have HR7 := Lib.hid (HR6.out.next hb7)
        have hbk7 := hbk6.out.next hb7
        have hB7 : Apart (w.heap.size + 1) w2.heap.size w2 w7 := hB6.trans (Apart.of_below (hb7.mono (by omega)))
        have hT7 : Below w.heap.size w w7 := Below.next hT6 hb7
        have hz7 := hb7.size
        clear hb7 y2
        cases hall3 : (ba && (bb && bc))
        · have hno : Hid (lineM sPt l = none) := by
            refine allM_none jL ?_
            rw [HSP.out, hall3]; rfl
          have h2 := hR.out
          rw [hno.out] at h2
          obtain ⟨e1, e2⟩ : [] = q0 ∧ false = b := by injection h2 with e1 e2; exact ⟨e1, e2⟩
          subst e1; subst e2
          obtain rfl : 0 = N := hN.out
          obtain ⟨er, fr⟩ := bk1 HR7.out
          have hgr := HR7.out.lt
          clear h2
          cases ba
          · go_wp2_with fail
            refine bodyPost_ret (by simp [results, Tryz.results74, go_sem, *]; try rfl) rfl ?_
            exact ⟨none, 0, rfl, Own.nil _ _ _ _ _, by have hT9 := hT7; go_grown⟩
          · cases bb
            · go_wp2_with fail
              refine bodyPost_ret (by simp [results, Tryz.results74, go_sem, *]; try rfl) rfl ?_
              exact ⟨none, 0, rfl, Own.nil _ _ _ _ _, by have hT9 := hT7; go_grown⟩
            · cases bc
              · go_wp2_with fail
                refine bodyPost_ret (by simp [results, Tryz.results74, go_sem, *]; try rfl) rfl ?_
                exact ⟨none, 0, rfl, Own.nil _ _ _ _ _, by have hT9 := hT7; go_grown⟩
              · exact absurd hall3 (by simp)
        · have hnx : Hid (allM sPt ((splitL 32 l).take (j + 1)) = some (q ++ [⟨za, zb, zc⟩])) := allM_take hq.out jL (by rw [HSP.out, hall3]; rfl)
          have hql2 : Hid ((q ++ [(⟨za, zb, zc⟩ : Pt)]).length = j + 1) := by rw [Hid, List.length_append, hql.out]; rfl
          obtain ⟨ha1, ha2, ha3⟩ : ba = true ∧ bb = true ∧ bc = true := by simpa using hall3
          subst ha1; subst ha2; subst ha3
          obtain ⟨ev7, fv7⟩ := bk1 hbk7
          have hgl7 := hbk7.lt
          clear hall3
          go_wp2_with ((at_builtin; refine list_push elem_pt (by rfl) (.tmp 65) (.tmp 70) 55 (by rfl) Tryz.underlying55 w2.heap.size u q (⟨za, zb, zc⟩ : Pt) (by rfl) (HO7.out.alloc _) j hql.out w7.heap.size 1 (by rfl) (fun i u hu => ((Bk.new w7 #[.int .i64 za, .int .i64 zb, .int .i64 zc] 61).cell i).trans (by simpa [ptC] using hu)) (by unfold maxLen; omega) (by omega) (by simp only [World.size_alloc]; omega) ?_; intro g5 cap5 w8 hown5 hgrow5 hat5 hlt5 hkeep5; have hbk5' : Bk w8 (w.heap.size + 1) 57 #[u] := (hgrow5.block _ (by simp only [World.size_alloc]; omega) (fun e => by have h2 := HI.out _ e.symm; omega)).trans (hbk7.alloc _); obtain ⟨e5', f5⟩ := bk1 hbk5'; have hz5 := hgrow5.size; simp only [World.size_alloc] at hz5; have hgl5 := hbk5'.lt))
          go_roundw
          case rel =>
            refine ⟨j + 1, _, q ++ [⟨za, zb, zc⟩], by omega, by go_num, bk1_put hbk5', hql2, hnx, ?_, ?_⟩
            · exact hown5.setCell _ _ (fun k hk => by have h1 := hown5.lt k hk; simp only [ne_eq]; omega)
            · exact ((hB7.trans (Apart.of_below (Below.alloc (Below.refl _ _) (by omega) _))).grown hgrow5 (by simp only [World.size_alloc]; omega) (fun k hk => (HI.out k hk).1)).store _
          case measure => (simp [intOf]; try omega)
      · have hno : Hid (lineM sPt l = none) := by
          refine allM_none jL ?_
          rw [← HYL.out]
          exact sPt_no (by rw [← splitBs_map, List.length_map, HNr.out]; exact h3)
        have hne3 : ((nr : Int) != 3) = true := bne_iff_ne.2 (by omega)
        have h2 := hR.out
        rw [hno.out] at h2
        obtain ⟨e1, e2⟩ : [] = q0 ∧ false = b := by injection h2 with e1 e2; exact ⟨e1, e2⟩
        subst e1; subst e2
        obtain rfl : 0 = N := hN.out
        obtain ⟨er, fr⟩ := bk1 HR4.out
        have hgr := HR4.out.lt
        clear h2 hown4 hb4
        go_wp2_with fail
        refine bodyPost_ret (by simp [results, Tryz.results74, go_sem, *]; try rfl) rfl ?_
        exact ⟨none, 0, rfl, Own.nil _ _ _ _ _, by have hT9 := hT4; go_grown⟩
    · obtain rfl : j = m := by omega
      have hyes : Hid (lineM sPt l = some q) := by
        have h1 := hq.out
        rw [List.take_of_length_le (by rw [HM2.out]; exact Nat.le_refl _)] at h1
        exact h1
      have h2 := hR.out
      rw [hyes.out] at h2
      obtain ⟨e1, e2⟩ : q = q0 ∧ true = b := by injection h2 with e1 e2; exact ⟨e1, e2⟩
      subst e1; subst e2
      obtain rfl : j = N := hql.out.symm.trans hN.out
      obtain ⟨A2, c2, hu, _, _, _⟩ := HO.out.rd
      rw [hql.out] at hu
      subst hu
      have HRr : Hid (Bk wr w.heap.size 57 #[.slice none 0 0]) := (hB.block _ (by omega) (by omega)).trans HR2.out
      obtain ⟨er, fr⟩ := bk1 HRr.out
      have hgr := HRr.out.lt
      clear h2
      go_wp2_with fail
      refine bodyPost_ret (by simp [results, Tryz.results74, go_sem, *]; try rfl) rfl ?_
      exact ⟨A2, c2, rfl, (HO.out.setCell _ _ (fun k hk => by have h1 := HO.out.lt k hk; simp only [ne_eq]; omega)).mono (by omega), by have hT9 := hWr; go_grown⟩
end Go.Proofs.YtmdmjnhebbhjbaaGreatDoor
