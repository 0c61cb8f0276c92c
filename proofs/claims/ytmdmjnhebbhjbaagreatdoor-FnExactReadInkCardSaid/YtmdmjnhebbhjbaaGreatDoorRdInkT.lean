/-
  The reference reads an ink's text.
-/
import Derived.Test.YtmdmjnhebbhjbaaGreatDoorRdInkS
namespace Go.Proofs.YtmdmjnhebbhjbaaGreatDoor
set_option linter.unusedSimpArgs false
set_option linter.unusedVariables false
set_option maxRecDepth 20000
open Go.RowKit
open Go.ChangeShapes Go.WideShapes Go.Deep Go.Joins

set_option maxHeartbeats 4000000 in
theorem l02Read_any (s : ByteArray) (hs : s.size ≤ 1048576) (P : List (List Pt)) (b : Bool) (N : Nat) (hR : Hid ((match inkM sPt s.data.toList with | none => ([], false) | some P => (P, inkB P)) = (P, b))) (hN : Hid (P.length = N)) (w : World) :
    Calls Tryz.prog 33 #[.string s] w fun e w' => ∃ A2 c2 T, e = .returned (.tuple #[.agg #[.slice A2 N c2], .bool b]) ∧ ptsOf T = P ∧ InkOwn w' w.heap.size w'.heap.size (.slice A2 N c2) T ∧ Below w.heap.size w w' := by
  have hsl : s.data.toList.length = s.size := Array.length_toList
  have HR0 : Hid (Bk (w.alloc (.cells #[.slice none 0 0] 34)) w.heap.size 34 #[.slice none 0 0]) := Bk.new w _ _
  obtain ⟨n, hn⟩ : ∃ n, (splitL 10 s.data.toList).length = n + 1 := ⟨(splitL 10 s.data.toList).length - 1, by have := splitL_ne 10 s.data.toList; have h2 := List.length_pos_iff.2 this; omega⟩
  have HM1 : Hid ((splitBs 10 s).length = n + 1) := by rw [Hid]; unfold splitBs; rw [List.length_map, hn]
  have kl : n < (splitL 10 s.data.toList).length := by omega
  have klB : n < (splitBs 10 s).length := by have := HM1.out; omega
  have hLS : linesD s.data.toList = if (splitL 10 s.data.toList)[n] = [] then some (splitL 10 s.data.toList).dropLast else none := by
    rw [← lines_same]
    unfold linesS
    have e : (splitL 10 s.data.toList).getLast? = some (splitL 10 s.data.toList)[n] := by rw [List.getLast?_eq_getElem?, hn]; simp
    rw [e]
    by_cases h : (splitL 10 s.data.toList)[n] = []
    · rw [if_pos h, if_pos (by rw [h])]
    · rw [if_neg h, if_neg (by simpa using h)]
  have hnb : n ≤ 1048576 := by have := splitL_count 10 s.data.toList; omega
  obtain ⟨x, hx⟩ : ∃ x, (splitBs 10 s)[n] = x := ⟨_, rfl⟩
  have hxl : x.data.toList = (splitL 10 s.data.toList)[n] := by rw [← hx]; exact split_at rfl klB kl
  have HN1 := Lib.hid hn
  have HXX := Lib.hid hx
  have HLS := Lib.hid hLS
  have HXL := Lib.hid hxl
  clear hLS hn hx hxl
  have hn0 : (0 : Int) ≤ (n : Int) := by omega
  have hn1 : (n : Int) < (n : Int) + 1 := by omega
  by_cases hx0 : x.data.toList = []
  rotate_left
  · have h2 := hR.out
    have hno : inkM sPt s.data.toList = none := by unfold inkM; rw [HLS.out, if_neg (by rw [← HXL.out]; exact hx0)]
    rw [hno] at h2
    obtain ⟨e1, e2⟩ : [] = P ∧ false = b := by injection h2 with e1 e2; exact ⟨e1, e2⟩
    subst e1; subst e2
    obtain rfl : 0 = N := hN.out
    clear h2
    have hl0 : (x.toList.isEmpty) = false := by rw [List.isEmpty_eq_false_iff, ByteArray.toList_eq]; exact hx0
    clear hx0 hno
    go_enter Tryz.func33, Tryz.ntmps33
    go_wp2_with fail
    refine (l01Split_n s 10 (n + 1) _ HM1.out hs).mono ?_
    rintro e w2 ⟨Aw, cw, rfl, hown2, hb2⟩
    have hT2 : Below w.heap.size w w2 := Below.next (by go_grown) hb2
    have HR2 := Lib.hid (HR0.out.next hb2)
    have hrd2 := hown2.rdS HM1.out
    obtain ⟨b2, o2, e2, l2, hc2⟩ := hrd2.at sC_len HM1.out klB
    subst e2
    rw [HXX.out] at hc2
    have a2 : w2.cell? ⟨b2, o2 + n, none⟩ = some (.string x) := by simpa using hc2 0 _ rfl
    obtain ⟨er, fr⟩ := bk1 HR2.out
    have hgr := HR2.out.lt
    clear hown2 hb2 hc2 hrd2
    go_wp2_with fail
    refine bodyPost_ret (by simp [results, Tryz.results33, go_sem, *]; try rfl) rfl ?_
    exact ⟨none, 0, [], rfl, rfl, InkOwn.nil _ _ _, by have hT9 := hT2; go_grown⟩
  obtain ⟨L, hL⟩ : ∃ L, (splitL 10 s.data.toList).dropLast = L := ⟨_, rfl⟩
  have hD : linesD s.data.toList = some L := by rw [HLS.out, if_pos (by rw [← HXL.out]; exact hx0), hL]
  obtain ⟨hb1, hb2⟩ := linesD_bd hD (by omega)
  have hLN : L.length = n := by rw [← hL, List.length_dropLast, HN1.out]; rfl
  have hLat : ∀ k (h1 : k < L.length) (h2 : k < (splitL 10 s.data.toList).length), L[k] = (splitL 10 s.data.toList)[k] := fun k h1 h2 => by subst hL; simp
  have HD := Lib.hid hD
  have HLB := Lib.hid hb2
  have LN := Lib.hid hLN
  have HLA := Lib.hid hLat
  have hl0 : (x.toList.isEmpty) = true := by rw [List.isEmpty_iff, ByteArray.toList_eq]; exact hx0
  clear hL hD hb1 hb2 hLN hLat hx0
  go_enter Tryz.func33, Tryz.ntmps33
  go_wp2_with fail
  refine (l01Split_n s 10 (n + 1) _ HM1.out hs).mono ?_
  rintro e w2 ⟨Aw, cw, rfl, hown2, hb2⟩
  have hT2 : Below w.heap.size w w2 := Below.next (by go_grown) hb2
  have HR2 := Lib.hid (HR0.out.next hb2)
  have hrd2 := hown2.rdS HM1.out
  have HRD := Lib.hid hrd2
  obtain ⟨b2, o2, e2, l2, hc2⟩ := hrd2.at sC_len HM1.out klB
  subst e2
  rw [HXX.out] at hc2
  have a2 : w2.cell? ⟨b2, o2 + n, none⟩ = some (.string x) := by simpa using hc2 0 _ rfl
  have hgr2 := HR2.out.lt
  clear hown2 hb2 hc2 hrd2
  go_wp2_with fail
  clear a2
  go_loopw [6] (fun i wo => ∃ (k : Nat) (v : Value) (T : List St) (P' : List (List Pt)), k ≤ n ∧ i = .int .i64 (k : Int) ∧ Bk wo w2.heap.size 34 #[v] ∧ Hid (T.length = k) ∧ Hid (ptsOf T = P') ∧ Hid (allM (lineM sPt) (L.take k) = some P') ∧ Hid (InkOwn wo (w2.heap.size + 1) wo.heap.size v T) ∧ Below w2.heap.size (w2.alloc (.cells #[.slice none 0 0] 34)) wo) (fun i _ => n - (intOf i).toNat)
  case atStart => exact ⟨0, .slice none 0 0, [], [], Nat.zero_le _, rfl, Bk.new w2 _ _, rfl, rfl, rfl, InkOwn.nil _ _ _, Below.refl _ _⟩
  case round =>
    obtain ⟨wo, rfl⟩ : ∃ wo, wo = wr := ⟨wr, rfl⟩
    obtain ⟨k, v, T, P', hk, rfl, hbk, hT, hpt, hall, hin, hW⟩ := hrel
    have hWs := hW.size
    simp only [World.size_alloc] at hWs
    have hWd : Below w2.heap.size w2 wo := ((Below.refl _ _).alloc (Nat.le_refl _) _).trans hW
    have hW0 : Below w.heap.size w wo := Below.next hT2 hWd
    have hW0s := hW0.size
    obtain ⟨eo, fo⟩ := bk1 hbk
    have hgl := hbk.lt
    have HRo := Lib.hid (HR2.out.next hWd)
    by_cases hlt : k < n
    · have kL : k < L.length := by rw [LN.out]; exact hlt
      have kB : k < (splitBs 10 s).length := by rw [HM1.out]; omega
      have kS : k < (splitL 10 s.data.toList).length := by rw [HN1.out]; omega
      obtain ⟨y, hy⟩ : ∃ y, (splitBs 10 s)[k] = y := ⟨_, rfl⟩
      have hyl : y.data.toList = L[k] := by rw [← hy, HLA.out k kL kS]; exact split_at rfl kB kS
      have hys : y.size ≤ 1048575 := by
        have h1 := HLB.out _ (List.getElem_mem kL)
        rw [← hyl] at h1
        have h3 : y.data.toList.length = y.size := Array.length_toList
        omega
      obtain ⟨b3, o3, e3, l3, hc3⟩ := (HRD.out.below hWd).at sC_len HM1.out kB
      rw [hy] at hc3
      have a3 : wo.cell? ⟨b2, o2 + k, none⟩ = some (.string y) := by injection e3 with e3; injection e3 with e3 e4; subst e3; subst e4; simpa using hc3 0 _ rfl
      obtain ⟨⟨q, v1⟩, hq0⟩ : ∃ r, (match lineM sPt L[k] with | none => (([] : List Pt), false) | some q => (q, true)) = r := ⟨_, rfl⟩
      obtain ⟨m, hm⟩ : ∃ m, q.length = m := ⟨_, rfl⟩
      have HQ := Lib.hid hq0
      have HMM := Lib.hid hm
      have hk1 : ((k : Int) + 1 < (n : Int) + 1) := by omega
      have hk0 : (0 : Int) ≤ (k : Int) := by omega
      have hmb : v1 = true → m ≤ 1048576 := fun h => by
        subst h
        cases e : lineM sPt L[k] with
        | none => rw [e] at hq0; injection hq0 with _ h2; cases h2
        | some q' =>
          rw [e] at hq0
          injection hq0 with h1 _
          subst h1
          have h3 := allM_len e
          have h4 := splitL_count 32 L[k]
          rw [← hyl] at h4
          have h5 : y.data.toList.length = y.size := Array.length_toList
          rw [← hyl] at h3
          omega
      have HYL := Lib.hid hyl
      clear hy hc3 e3 hq0 hm hyl l3
      go_wp2_with fail
      refine (l02Line_any y L[k] HYL.out hys q v1 m HQ HMM _).mono ?_
      rintro e w4 ⟨A4, c4, rfl, hown4, hb4⟩
      have HO := Lib.hid hown4
      have hB0 : Below wo.heap.size wo w4 := Below.next (by go_grown) hb4
      have hB4 : Below w.heap.size w w4 := Below.next hW0 hB0
      have hbk3 := hbk.next hB0
      have HR4 := Lib.hid (HRo.out.next hB0)
      obtain ⟨eo4, fo4⟩ := bk1 hbk3
      have hgl4 := hbk3.lt
      clear hown4 hb4 eo fo a3
      cases v1
      · have hno : Hid (inkM sPt s.data.toList = none) := by
          unfold inkM
          rw [Hid, HD.out]
          refine allM_none kL ?_
          cases e : lineM sPt L[k] with
          | none => rfl
          | some q' => have h3 := HQ.out; rw [e] at h3; injection h3 with _ h4; cases h4
        have h2 := hR.out
        rw [hno.out] at h2
        obtain ⟨e1, e2⟩ : [] = P ∧ false = b := by injection h2 with e1 e2; exact ⟨e1, e2⟩
        subst e1; subst e2
        obtain rfl : 0 = N := hN.out
        clear h2
        obtain ⟨er, fr⟩ := bk1 HR4.out
        have hgr := HR4.out.lt
        go_wp2_with fail
        refine bodyPost_ret (by simp [results, Tryz.results33, go_sem, *]; try rfl) rfl ?_
        exact ⟨none, 0, [], rfl, rfl, InkOwn.nil _ _ _, by have hT9 := hB4; go_grown⟩
      · have hmb' := hmb rfl
        have HL2 : Hid (allM (lineM sPt) (L.take (k + 1)) = some (P' ++ [q])) := allM_take hall.out kL (by
          cases e : lineM sPt L[k] with
          | none => have h3 := HQ.out; rw [e] at h3; injection h3 with _ h4; cases h4
          | some q' => have h3 := HQ.out; rw [e] at h3; injection h3 with h4 _; rw [h4])
        have HIN := Lib.hid (hin.out.next hB0)
        have HVV : Hid (∀ k, v.ownBlock = some k → w2.heap.size + 1 ≤ k ∧ k < wo.heap.size) := fun k hk => ⟨(hin.out.row.lt k hk).1, (hin.out.row.lt k hk).2⟩
        have TL : Hid (T.length = k) := hT
        obtain ⟨s9, hs9⟩ : ∃ t9 : St, t9 = ⟨A4, c4, q⟩ := ⟨_, rfl⟩
        have htv : s9.val = .slice A4 m c4 := by rw [hs9]; simp [St.val, HMM.out]
        have htl : s9.l = q := by rw [hs9]
        have HTV := Lib.hid htv
        have HTL := Lib.hid htl
        have hzz := hB0.size
        have hne : ¬ w2.heap.size = w4.heap.size := by omega
        clear hs9 htv htl hT hmb
        go_wp2_with ((at_builtin; refine list_push elem_sk (by rfl) (.tmp 39) (.tmp 41) 32 (by rfl) Tryz.underlying32 (w2.heap.size + 1) v T s9 (by rfl) ((HIN.out.row.alloc _).alloc _) k TL.out (w4.heap.size + 1) 1 (by rfl) (fun i u hu => ((Bk.new1 w4 (.cells #[.slice A4 m c4] 57) #[.slice A4 m c4] 57).cell i).trans (by have h1 := HTV.out; unfold skC at hu; rw [h1] at hu; simpa using hu)) (by unfold maxLen; omega) (by omega) (by simp only [World.size_alloc]; omega) ?_; intro g5 cap5 w5 hown5 hgrow5 hat5 hlt5 hkeep5; have hbk5 : Bk w5 w2.heap.size 34 #[v] := (hgrow5.block _ (by simp only [World.size_alloc]; omega) (fun e => by have h2 := HVV.out _ e.symm; omega)).trans ((hbk3.alloc _).alloc _); obtain ⟨e5, f5⟩ := bk1 hbk5; have hz5 := hgrow5.size; simp only [World.size_alloc] at hz5; have hgl5 := hbk5.lt))
        go_roundw
        case rel =>
          have hlow : w2.heap.size + 1 ≤ wo.heap.size := by omega
          have hink := InkOwn.push HIN.out (t := s9) (by rw [HTL.out, HTV.out]; exact (HO.out.mono hlow)) (fun b hb => by rw [HTV.out] at hb; have h1 := (HO.out.lt b hb).1; omega) hB0.size (((Below.refl _ _).alloc (Nat.le_refl _) _).alloc (by simp) _) hgrow5 hat5 hlt5 hown5
          refine ⟨k + 1, _, T ++ [s9], P' ++ [q], by omega, by go_num, bk1_put hbk5, by simp [Hid, TL.out], by rw [Hid, ptsOf_push hpt.out, HTL.out], HL2, ?_, ?_⟩
          · have hsz : (w5.setCell ⟨w2.heap.size, 0, none⟩ (.slice (some ⟨g5, 0, none⟩) (k + 1) cap5)).heap.size = w5.heap.size := by simp [World.setCell]
            rw [Hid, hsz]
            exact hink.keep fun j hj _ _ => Below.heap_setCell _ _ _ _ (by simp only [ne_eq]; omega)
          · have hG := hW.trans (hB0.mono (show w2.heap.size ≤ wo.heap.size by omega))
            have hG2 := ((hG.alloc (show w2.heap.size ≤ w4.heap.size by omega) (.cells #[.slice A4 m c4] 57)).alloc (by simp only [World.size_alloc]; omega) (.cells #[.slice A4 m c4] 57)).grown hgrow5 (by simp only [World.size_alloc]; omega) (fun b hb => by have h2 := HVV.out b hb; omega)
            exact hG2.setCell (Nat.le_refl _) _
        case measure => (simp [intOf]; try omega)
    · obtain rfl : k = n := by omega
      have HIN := Lib.hid hin.out
      have HA : Hid (allM (lineM sPt) L = some P') := by
        have h1 := hall.out
        rw [List.take_of_length_le (by rw [LN.out]; exact Nat.le_refl _)] at h1
        exact h1
      have hI := inkM_all HD.out HA.out
      have HEACH : Hid (∀ s ∈ T, s.l.length ≤ 1048576) := read_each HA.out hpt.out HLB.out
      obtain ⟨A2, c2, hvv, _, _, _⟩ := hin.out.row.rd
      rw [hT.out] at hvv
      subst hvv
      have h2 := hR.out
      rw [hI] at h2
      obtain ⟨e1, hv⟩ : P' = P ∧ inkB P' = b := by injection h2 with e1 e2; exact ⟨e1, e2⟩
      subst e1
      obtain rfl : k = N := by rw [← hN.out, ← hpt.out, ptsOf_len]; exact hT.out.symm
      have hv : inkB (ptsOf T) = b := by rw [hpt.out]; exact hv
      have hRo : Bk wo w.heap.size 34 #[.slice none 0 0] := HRo.out
      obtain ⟨ev, fv⟩ := bk1 hbk
      obtain ⟨ero, fro⟩ := bk1 hRo
      have hgro := hRo.lt
      have hn2 : ¬ w2.heap.size = w.heap.size := by omega
      clear hin h2 eo fo hI
      go_wp2_with fail
      refine wp_region_held_drew (S := (fun w' => (∀ kb ko, kb < wo.heap.size → ¬ kb = w.heap.size → w'.cell? ⟨kb, ko, none⟩ = wo.cell? ⟨kb, ko, none⟩) ∧ wo.heap.size ≤ w'.heap.size ∧ Below w.heap.size wo w')) (by kernel_rfl) ?_ (fun hHeld => ?_)
      · (try dsimp only); exact S6.mk ((Below.refl _ _).drew) (by omega)
      first | (refine take_on (i := 0) (v := ?_) rfl (by kernel_rfl) (by kernel_rfl) (by kernel_rfl) (fun _ _ _ h => h) rfl ?_ (by assumption) ?_; rotate_left; · (intro w' hSw; (try dsimp only at hSw); go_simp; (try with_reducible rfl))) | (refine take_off (i := 0) rfl (by kernel_rfl) (by kernel_rfl) (by kernel_rfl) (fun _ _ _ h => h) rfl (by assumption) ?_)
      (try simp only [Act.put, List.setIfInBounds_toArray, List.set_cons_zero, List.set_cons_succ])
      refine wpAnyH_ready (rs := [1]) (by kernel_rfl) (by simp) ?_
      refine AllReadyH.cons rfl (fun K hK => ?_) AllReadyH.nil
      rw [if_pos (by rfl)]
      go_simp
      go_at_call 44
      refine (l02Ok_any w2.heap.size 0 A2 k c2 T wo.drew ev (HIN.out.drew.rd hT.out) HEACH.out (by omega)).mono ?_
      rintro e w5 ⟨rfl, hb5⟩
      have hB5 : Below wo.heap.size wo w5 := Below.next (by go_grown) hb5
      have hR5 := hRo.next hB5
      obtain ⟨er5, fr5⟩ := bk1 hR5
      have hgr5 := hR5.lt
      have hW5 : Below w.heap.size w (w5.setCell ⟨w.heap.size, 0, none⟩ (.slice A2 k c2)) := (hW0.trans (hB5.mono (by omega))).setCell (Nat.le_refl _) _
      have HFIN : Hid (InkOwn (w5.setCell ⟨w.heap.size, 0, none⟩ (.slice A2 k c2)) w.heap.size (w5.setCell ⟨w.heap.size, 0, none⟩ (.slice A2 k c2)).heap.size (.slice A2 k c2) T) := by
        have hsz : (w5.setCell ⟨w.heap.size, 0, none⟩ (.slice A2 k c2)).heap.size = w5.heap.size := by simp [World.setCell]
        rw [Hid, hsz]
        exact (((HIN.out.next hB5).keep fun j hj _ _ => Below.heap_setCell _ _ _ _ (by simp only [ne_eq]; omega)).low (by omega)).upto2 hB5.size
      refine hK.out _ _ ?_ (fun hHeld2 => ?_)
      · (try dsimp only); exact S6.mk hB5 (by omega)
      clear hK K hHeld; have hHeld := hHeld2; clear hHeld2; (try simp only [Act.put, List.setIfInBounds_toArray, List.set_cons_zero, List.set_cons_succ])
      refine wpAnyH_ready (rs := [2]) (by kernel_rfl) (by simp) ?_
      refine AllReadyH.cons rfl (fun K hK => ?_) AllReadyH.nil
      rw [if_pos (by rfl)]
      go_simp
      refine hK.out _ _ ?_ (fun hHeld2 => ?_)
      · (try dsimp only); exact S6.store hHeld _
      clear hK K hHeld; have hHeld := hHeld2; clear hHeld2; (try simp only [Act.put, List.setIfInBounds_toArray, List.set_cons_zero, List.set_cons_succ])
      first | (refine take_on (i := 3) (v := ?_) rfl (by kernel_rfl) (by kernel_rfl) (by kernel_rfl) (fun _ _ _ h => h) rfl ?_ (by assumption) ?_; rotate_left; · (intro w' hSw; (try dsimp only at hSw); go_simp; (try with_reducible rfl))) | (refine take_off (i := 3) rfl (by kernel_rfl) (by kernel_rfl) (by kernel_rfl) (fun _ _ _ h => h) rfl (by assumption) ?_)
      (try simp only [Act.put, List.setIfInBounds_toArray, List.set_cons_zero, List.set_cons_succ])
      refine wpAnyH_done (by kernel_rfl) ?_ _
      clear hHeld
      go_wp2_with fail
      refine bodyPost_ret (by simp [results, Tryz.results33, go_sem, *]; try rfl) rfl ?_
      exact ⟨A2, c2, T, rfl, hpt.out, HFIN.out, hW5⟩
theorem sReadInk_any (s : ByteArray) (hs : s.size ≤ 1048576) (P : List (List Pt)) (b : Bool) (N : Nat) (hR : Hid (readS s.data.toList = (P, b))) (hN : Hid (P.length = N)) (w : World) :
    Calls Tryz.prog 11 #[.string s] w fun e w' => ∃ A2 c2 T, e = .returned (.tuple #[.agg #[.slice A2 N c2], .bool b]) ∧ ptsOf T = P ∧ InkOwn w' w.heap.size w'.heap.size (.slice A2 N c2) T ∧ Below w.heap.size w w' := by
  have HR0 : Hid (Bk (w.alloc (.cells #[.slice none 0 0] 34)) w.heap.size 34 #[.slice none 0 0]) := Bk.new w _ _
  obtain ⟨⟨P1, b1⟩, h1⟩ : ∃ r, (match inkM sPt s.data.toList with | none => (([] : List (List Pt)), false) | some P => (P, inkB P)) = r := ⟨_, rfl⟩
  obtain ⟨N1, hN1⟩ : ∃ N, P1.length = N := ⟨_, rfl⟩
  have H1 := Lib.hid h1
  have HN1 := Lib.hid hN1
  have hS : readS s.data.toList = if b1 = true then (P1, true) else ([], false) := by
    unfold readS
    cases e : inkM sPt s.data.toList with
    | none => rw [e] at h1; injection h1 with e1 e2; subst e2; rfl
    | some P2 => rw [e] at h1; injection h1 with e1 e2; subst e1; subst e2; rfl
  clear h1 hN1
  have h2 := hR.out
  rw [hS] at h2
  clear hS
  go_enter Tryz.func11, Tryz.ntmps11
  go_wp2_with fail
  refine (l02Read_any s hs P1 b1 N1 H1 HN1 _).mono ?_
  rintro e w2 ⟨A2, c2, T, rfl, hp2, ho2, hb2⟩
  have hT2 : Below w.heap.size w w2 := Below.next (by go_grown) hb2
  have HR2 := Lib.hid (HR0.out.next hb2)
  obtain ⟨er, fr⟩ := bk1 HR2.out
  have hgr := HR2.out.lt
  have HO := Lib.hid ho2
  have HP := Lib.hid hp2
  clear hb2 ho2 hp2
  cases b1
  · rw [if_neg (by simp)] at h2
    obtain ⟨e1, e2⟩ : [] = P ∧ false = b := by injection h2 with e1 e2; exact ⟨e1, e2⟩
    subst e1; subst e2
    obtain rfl : 0 = N := hN.out
    clear h2
    go_wp2_with fail
    refine bodyPost_ret (by simp [results, Tryz.results11, go_sem, *]; try rfl) rfl ?_
    exact ⟨none, 0, [], rfl, rfl, InkOwn.nil _ _ _, by have hT9 := hT2; go_grown⟩
  · rw [if_pos rfl] at h2
    obtain ⟨e1, e2⟩ : P1 = P ∧ true = b := by injection h2 with e1 e2; exact ⟨e1, e2⟩
    subst e1; subst e2
    obtain rfl : N1 = N := HN1.out.symm.trans hN.out
    clear h2
    have hne : ¬ w.heap.size = w2.heap.size := by omega
    go_wp2_with fail
    refine bodyPost_ret (by simp [results, Tryz.results11, go_sem, *]; try rfl) rfl ?_
    refine ⟨A2, c2, T, rfl, HP.out, ?_, by have hT9 := hT2; go_grown⟩
    have h3 := HO.out
    simp only [World.size_alloc] at h3
    have h4 := (h3.keep (w' := w2.setCell ⟨w.heap.size, 0, none⟩ (.slice A2 N1 c2)) fun j hj _ _ => Below.heap_setCell _ _ _ _ (by simp only [ne_eq]; omega)).alloc (.cells #[.slice A2 N1 c2] 34)
    exact (h4.low (by omega)).upto2 (by simp [World.setCell])
end Go.Proofs.YtmdmjnhebbhjbaaGreatDoor
