/-
  The program reads a file. The reference's numbers of words. The reference reads a line of a file: a channel, a note. The reference reads a line of a file: a stroke. The reference reads a line of a file, whatever it is. The reference reads a file.
-/
import Derived.Test.YtmdmjnhebbhjbaaGreatDoorRdFla
namespace Go.Proofs.YtmdmjnhebbhjbaaGreatDoor
set_option linter.unusedSimpArgs false
set_option linter.unusedVariables false
set_option maxRecDepth 20000
open Go.RowKit
open Go.ChangeShapes Go.WideShapes Go.Deep Go.Joins

set_option maxHeartbeats 8000000 in
theorem iReadFile_any (s : ByteArray) (hs : s.size ≤ 1048576) (p : FlP) (b : Bool) (hR : Hid (ResF s.data.toList p b)) (w : World) (hm : MaxIs w) (ht : Tab10 w) (he : ErrIs w) :
    Calls Tryz.prog 7 #[.string s] w fun e w' => ∃ f, e = .returned (.tuple #[.agg #[.slice f.ch.A f.ch.l.length f.ch.c, .slice f.st.A f.st.l.length f.st.c, .slice f.no.A f.no.l.length f.no.c], .bool b]) ∧ filePl f = p ∧ FileMine w' w.heap.size w'.heap.size f ∧ Below w.heap.size w w' := by
  have HM := Lib.hid hm
  have HT := Lib.hid ht
  have HE := Lib.hid he
  have hsl : s.data.toList.length = s.size := Array.length_toList
  have HR0 : Hid (Bk (w.alloc (.cells #[.slice none 0 0, .slice none 0 0, .slice none 0 0] 26)) w.heap.size 26 #[.slice none 0 0, .slice none 0 0, .slice none 0 0]) := Bk.new w _ _
  clear hm ht he
  cases hD : linesD s.data.toList with
  | none =>
    obtain ⟨hp0, hb0⟩ := hR.out.no (goodI_none (rdF_none hD))
    subst hp0; subst hb0
    have HL : Hid (linesB s = ([], false)) := linesB_none hD
    clear hD
    go_enter Tryz.func7, Tryz.ntmps7
    go_wp2_with fail
    refine (linesOf_any s hs false [] 0 HL rfl _ (HM.out.below (by go_grown))).mono ?_
    rintro e w2 ⟨A, c, rfl, _, hb2⟩
    have hT2 : Below w.heap.size w w2 := Below.next (by go_grown) hb2
    have HRw2 := Lib.hid (HR0.out.next hb2)
    have er0 := HRw2.out.cell 0
    have er1 := HRw2.out.cell 1
    have er2 := HRw2.out.cell 2
    have fr0 := HRw2.out.frozen 0
    have fr1 := HRw2.out.frozen 1
    have fr2 := HRw2.out.frozen 2
    have hgr := HRw2.out.lt
    clear hb2
    go_wp2_with fail
    refine bodyPost_ret (by simp [results, Tryz.results7, go_sem, *]; try rfl) rfl ?_
    exact ⟨⟨⟨none, 0, []⟩, ⟨none, 0, []⟩, ⟨none, 0, []⟩⟩, rfl, rfl, FileMine.nil _ _ _, by have hT9 := hT2; go_grown⟩
  | some L =>
    obtain ⟨n, hn⟩ : ∃ n, L.length = n := ⟨_, rfl⟩
    obtain ⟨hb1, hb2⟩ := linesD_bd hD (by omega)
    have HL : Hid (linesB s = (L.map bs, true)) := linesB_of hD
    have HLN : Hid ((L.map bs).length = n) := by rw [Hid, List.length_map, hn]
    have HD := Lib.hid hD
    have HLB := Lib.hid hb2
    have LN := Lib.hid hn
    have HSL := Lib.hid (show s.data.toList.length ≤ 1048576 by omega)
    rw [hn] at hb1
    clear hD hb2 hn
    go_enter Tryz.func7, Tryz.ntmps7
    go_wp2_with fail
    refine (linesOf_any s hs true (L.map bs) n HL HLN _ (HM.out.below (by go_grown))).mono ?_
    rintro e w2 ⟨A, c, rfl, hrd, hb2⟩
    have hT2 : Below w.heap.size w w2 := Below.next (by go_grown) hb2
    have HRw2 := Lib.hid (HR0.out.next hb2)
    have HRD := Lib.hid hrd
    have hgr2 := HRw2.out.lt
    have HF0 : Hid (FA (w2.alloc (.cells #[.slice none 0 0, .slice none 0 0, .slice none 0 0] 26)) w2.heap.size (w2.heap.size + 1) (w2.alloc (.cells #[.slice none 0 0, .slice none 0 0, .slice none 0 0] 26)).heap.size ⟨⟨none, 0, []⟩, ⟨none, 0, []⟩, ⟨none, 0, []⟩⟩) := ⟨Bk.new w2 _ _, FileMine.nil _ _ _, by omega, by simp, Nat.le_refl _⟩
    clear hb2 hrd
    go_wp2_with fail
    go_loopw [19] (fun i wr => ∃ (k : Nat) (f : Fl) (p' : FlP), k ≤ n ∧ i = .int .i64 (k : Int) ∧ Hid (filePl f = p') ∧ Hid (foldO iLine fl0 ((L.take k).map (splitL 32)) = some p') ∧ Hid (FA wr w2.heap.size (w2.heap.size + 1) wr.heap.size f) ∧ Apart w2.heap.size (w2.heap.size + 1) (w2.alloc (.cells #[.slice none 0 0, .slice none 0 0, .slice none 0 0] 26)) wr) (fun i _ => n - (intOf i).toNat)
    case atStart => exact ⟨0, ⟨⟨none, 0, []⟩, ⟨none, 0, []⟩, ⟨none, 0, []⟩⟩, fl0, Nat.zero_le _, rfl, rfl, rfl, HF0.out, Apart.refl _ _ _⟩
    case round =>
      obtain ⟨wo, rfl⟩ : ∃ wo, wo = wr := ⟨wr, rfl⟩
      obtain ⟨k, f, p', hk, rfl, hpl, hfo, hfa, hA⟩ := hrel
      have hAs := hA.size
      simp only [World.size_alloc] at hAs
      have hAB : Below w2.heap.size (w2.alloc (.cells #[.slice none 0 0, .slice none 0 0, .slice none 0 0] 26)) wo := hA.below (Nat.le_refl _) (by omega)
      have hWd : Below w2.heap.size w2 wo := ((Below.refl _ _).alloc (Nat.le_refl _) _).trans hAB
      have hW0 : Below w.heap.size w wo := Below.next hT2 hWd
      have hW0s := hW0.size
      have HRwo := Lib.hid (HRw2.out.next hWd)
      have hsz := fold_sz HD.out HSL.out hfo.out
      obtain ⟨hPs, hPt⟩ := hsz.pl (Nat.le_refl _)
      have HPS := Lib.hid hPs
      have HPT := Lib.hid hPt
      have hl1 : f.ch.l.length ≤ 1048576 := by have h1 := hPs.ch; rw [← hpl.out] at h1; exact h1
      have hl2 : f.st.l.length ≤ 1048576 := by have h1 := hPs.st; rw [← hpl.out] at h1; show _; rw [← List.length_map (f := rowsK.pl)]; exact h1
      have hl3 : f.no.l.length ≤ 1048576 := by have h1 := hPs.no; rw [← hpl.out] at h1; exact h1
      clear hsz hPs hPt
      by_cases hlt : k < n
      · have kL : k < L.length := by rw [LN.out]; exact hlt
        have kB : k < (L.map bs).length := by rw [HLN.out]; exact hlt
        obtain ⟨x, hx⟩ : ∃ x, (L.map bs)[k] = x := ⟨_, rfl⟩
        have hxl : x.data.toList = L[k] := by rw [← hx, List.getElem_map, bs_list]
        have hxs : x.size ≤ 1048575 := by
          have h1 := HLB.out _ (List.getElem_mem kL)
          rw [← hxl] at h1
          have h3 : x.data.toList.length = x.size := Array.length_toList
          omega
        obtain ⟨b1, o1, e1, l1, hc1⟩ := (HRD.out.below hWd).at sC_len HLN.out kB
        rw [hx] at hc1
        have a1 : wo.cell? ⟨b1, o1 + k, none⟩ = some (.string x) := by simpa using hc1 0 _ rfl
        have hk0 : (0 : Int) ≤ (k : Int) := by omega
        have hkn : (k : Int) < (n : Int) := by omega
        have HXL := Lib.hid hxl
        obtain ⟨m, hm⟩ : ∃ m, (splitBs 32 x).length = m := ⟨_, rfl⟩
        have HM1 := Lib.hid hm
        have hm1 : 1 ≤ m := by
          rw [← hm]
          have h1 := splitL_ne 32 x.data.toList
          have h2 := List.length_pos_iff.2 h1
          unfold splitBs
          rw [List.length_map]
          exact h2
        have hmb : m ≤ 1048576 := by have := splitBs_len 32 x; omega
        have HTS : Hid (∀ y ∈ splitBs 32 x, y.size ≤ 1048576) := fun y hy => by have := split_size hy; omega
        obtain ⟨o, ho⟩ : ∃ o, iLine p' ((splitBs 32 x).map fun y => y.data.toList) = o := ⟨_, rfl⟩
        have HO := Lib.hid ho
        have HLI : Hid (iLine p' (splitL 32 L[k]) = o) := by rw [Hid, ← words_of hxl]; exact ho
        subst e1
        clear hc1 hx hxl hm ho
        go_wp2_with fail
        refine (wordsOf_any x m _ HM1 (by omega) (HM.out.below hW0)).mono ?_
        rintro e w3 ⟨gw, rfl, hgw, hrw, hb3⟩
        have hB3 : Below w.heap.size w w3 := Below.next hW0 hb3
        have hfa3 := hfa.out.next hb3
        have hA3 : Apart w2.heap.size (w2.heap.size + 1) (w2.alloc (.cells #[.slice none 0 0, .slice none 0 0, .slice none 0 0] 26)) w3 := hA.trans (Apart.of_below (hb3.mono (by omega)))
        have hz3 := hb3.size
        have hgl : gw < w3.heap.size := by
          obtain ⟨b9, o9, e9, l9, _⟩ := (show Rd w3 (some ⟨gw, 0, none⟩) m 1 (rowOf sC (splitBs 32 x)) from hrw).at sC_len HM1.out (show 0 < (splitBs 32 x).length by rw [HM1.out]; omega)
          injection e9 with e9
          injection e9 with e9 _
          rw [e9]; exact l9
        have hcl := readFileLine_any w2.heap.size (w2.heap.size + 1) wo.heap.size f p' gw m (splitBs 32 x) o w3 hfa3 hpl.out hgw hgl ⟨hl1, hl2, hl3⟩ HM1.out hm1 hmb hrw HTS.out HO (HM.out.below hB3) (HT.out.below hB3) (HE.out.below hB3)
        clear hb3 hrw a1 hfa3
        go_wp2_with fail
        refine hcl.mono ?_
        rintro e w4 (⟨rfl, rfl, hA4⟩ | ⟨q, rfl, f', rfl, hpl4, hfa4, hA4⟩)
        · have hA5 := hA3.trans hA4
          have hW4 : Below w.heap.size w w4 := Below.next hT2 (((Below.refl _ _).alloc (Nat.le_refl _) _).trans (hA5.below (Nat.le_refl _) (by omega)))
          have HRw4 := Lib.hid (((HRw2.out.alloc (.cells #[.slice none 0 0, .slice none 0 0, .slice none 0 0] 26)).below (hA5.below (Nat.le_refl _) (by omega)) hgr2))
          obtain ⟨hp0, hb0⟩ := hR.out.no (goodI_none (by rw [rdF_lines HD.out]; exact fold_bad hfo.out kL HLI.out))
          subst hp0; subst hb0
          have er0 := HRw4.out.cell 0
          have er1 := HRw4.out.cell 1
          have er2 := HRw4.out.cell 2
          have fr0 := HRw4.out.frozen 0
          have fr1 := HRw4.out.frozen 1
          have fr2 := HRw4.out.frozen 2
          have hgr := HRw4.out.lt
          clear hcl hA4 hA3
          go_wp2_with fail
          refine bodyPost_ret (by simp [results, Tryz.results7, go_sem, *]; try rfl) rfl ?_
          exact ⟨⟨⟨none, 0, []⟩, ⟨none, 0, []⟩, ⟨none, 0, []⟩⟩, rfl, rfl, FileMine.nil _ _ _, by have hT9 := hW4; go_grown⟩
        · clear hcl
          have HFA4 := Lib.hid hfa4
          have HPL4 := Lib.hid hpl4
          clear hfa4 hpl4
          go_wp2_with fail
          go_roundw
          case rel => exact ⟨k + 1, f', q, by omega, by go_num, HPL4.out, fold_take hfo.out kL HLI.out, HFA4.out, hA3.trans hA4⟩
          case measure => (simp [intOf]; try omega)
      · obtain rfl : k = n := by omega
        have hrdF : Hid (rdF iLine s.data.toList = some p') := by
          rw [Hid, rdF_lines HD.out]
          have h1 := hfo.out
          rw [List.take_of_length_le (by rw [LN.out]; exact Nat.le_refl _)] at h1
          exact h1
        obtain ⟨v, hv⟩ := bool_of (FileOk p')
        have HV : Is v (FileOk p') := hv
        clear hv
        have hfbk := hfa.out.bk
        have HBF := Lib.hid hfbk
        have q0 := hfbk.cell 0
        have q1 := hfbk.cell 1
        have q2 := hfbk.cell 2
        have hgf := hfbk.lt
        have hcv := iValid_L f p' v wo hfa.out.mine.rd hpl.out HPS.out HPT.out HV
        clear hfbk
        go_wp2_with fail
        refine hcv.mono ?_
        rintro e w5 ⟨rfl, hb5⟩
        have hW5 : Below w.heap.size w w5 := Below.next hW0 hb5
        have HRw5 := Lib.hid (HRwo.out.next hb5)
        have HB5 := Lib.hid (HBF.out.next hb5)
        have HM5 := Lib.hid (hfa.out.mine.next hb5)
        have hz5 := hb5.size
        clear hb5 hcv q0 q1 q2
        cases v
        · 
          obtain ⟨hp0, hb0⟩ := hR.out.no (goodI_bad hrdF.out (fun h => by have h1 := HV.2 h.1; cases h1))
          subst hp0; subst hb0
          have er0 := HRw5.out.cell 0
          have er1 := HRw5.out.cell 1
          have er2 := HRw5.out.cell 2
          have fr0 := HRw5.out.frozen 0
          have fr1 := HRw5.out.frozen 1
          have fr2 := HRw5.out.frozen 2
          have hgr := HRw5.out.lt
          go_wp2_with fail
          refine bodyPost_ret (by simp [results, Tryz.results7, go_sem, *]; try rfl) rfl ?_
          exact ⟨⟨⟨none, 0, []⟩, ⟨none, 0, []⟩, ⟨none, 0, []⟩⟩, rfl, rfl, FileMine.nil _ _ _, by have hT9 := hW5; go_grown⟩
        · have hok := HV.1 rfl
          have HOK := Lib.hid hok
          have hct := iFileText_L f p' true w5 HM5.out.rd hpl.out HPS.out HPT.out HV (HT.out.below hW5)
          rw [ftR_yes] at hct
          obtain ⟨y, hy⟩ : ∃ y, bs (fileTx p') = y := ⟨_, rfl⟩
          rw [hy] at hct
          obtain ⟨v2, hv2⟩ : ∃ v2, (fileTx p' == s.data.toList) = v2 := ⟨_, rfl⟩
          have hys := fileTx_eq hy hv2
          have HV2 := Lib.hid hv2
          have q0 := HB5.out.cell 0
          have q1 := HB5.out.cell 1
          have q2 := HB5.out.cell 2
          have hgf5 := HB5.out.lt
          clear hv2 hy hok
          go_wp2_with fail
          refine hct.mono ?_
          rintro e w6 ⟨rfl, hb6⟩
          have hW6 : Below w.heap.size w w6 := Below.next hW5 hb6
          have HRw6 := Lib.hid (HRw5.out.next hb6)
          have HB6 := Lib.hid (HB5.out.next hb6)
          have HM6 := Lib.hid (HM5.out.next hb6)
          have hz6 := hb6.size
          clear hb6 hct q0 q1 q2
          cases v2
          · 
            obtain ⟨hp0, hb0⟩ := hR.out.no (goodI_bad hrdF.out (fun h => by have h9 := HV2.out; rw [h.2] at h9; simp at h9))
            subst hp0; subst hb0
            have er0 := HRw6.out.cell 0
            have er1 := HRw6.out.cell 1
            have er2 := HRw6.out.cell 2
            have fr0 := HRw6.out.frozen 0
            have fr1 := HRw6.out.frozen 1
            have fr2 := HRw6.out.frozen 2
            have hgr := HRw6.out.lt
            go_wp2_with fail
            refine bodyPost_ret (by simp [results, Tryz.results7, go_sem, *]; try rfl) rfl ?_
            exact ⟨⟨⟨none, 0, []⟩, ⟨none, 0, []⟩, ⟨none, 0, []⟩⟩, rfl, rfl, FileMine.nil _ _ _, by have hT9 := hW6; go_grown⟩
          · obtain ⟨hp0, hb0⟩ := hR.out.yes (goodI_yes hrdF.out HOK.out (by have h9 := HV2.out; simpa using h9))
            subst hp0; subst hb0
            have q0 := HB6.out.cell 0
            have q1 := HB6.out.cell 1
            have q2 := HB6.out.cell 2
            have hgf6 := HB6.out.lt
            have er0 := HRw6.out.cell 0
            have er1 := HRw6.out.cell 1
            have er2 := HRw6.out.cell 2
            have fr0 := HRw6.out.frozen 0
            have fr1 := HRw6.out.frozen 1
            have fr2 := HRw6.out.frozen 2
            have hgr := HRw6.out.lt
            have hne : ¬ w.heap.size = w2.heap.size := by omega
            go_wp2_with fail
            refine bodyPost_ret (by simp [results, Tryz.results7, go_sem, *]; try rfl) rfl ?_
            refine ⟨f, rfl, hpl.out, ?_, by have hT9 := hW6; go_grown⟩
            have h1 := ((HM6.out.set (bF := w.heap.size) (o := 0) (u := f.v1) (by omega)).set (bF := w.heap.size) (o := 1) (u := f.v2) (by omega)).set (bF := w.heap.size) (o := 2) (u := f.v3) (by omega)
            exact h1.low (by omega) (by simp [World.setCell]; omega)
end Go.Proofs.YtmdmjnhebbhjbaaGreatDoor
namespace Go.Proofs.YtmdmjnhebbhjbaaGreatDoor
set_option linter.unusedSimpArgs false
set_option linter.unusedVariables false
set_option maxRecDepth 20000
open Go.RowKit
open Go.ChangeShapes Go.WideShapes Go.Deep Go.Joins

def allTo (L : List ByteArray) (k : Nat) : Bool := (L.take k).all fun x => (decR x.data.toList).2
theorem allTo_next {L : List ByteArray} {k : Nat} (h : k < L.length) : allTo L (k + 1) = (allTo L k && (decR L[k].data.toList).2) := by
  unfold allTo
  rw [List.take_succ_eq_append_getElem h, List.all_append]
  simp
set_option maxHeartbeats 2000000 in
theorem l03Numbers_any (A : Option Addr) (n c : Nat) (L : List ByteArray) (w : World) (ha : Rd w A n 1 (rowOf sC L)) (hl : L.length = n) (hn : n ≤ 1048576) (hts : ∀ x ∈ L, x.size ≤ 1048576) :
    Calls Tryz.prog 99 #[.slice A n c] w fun e w' => ∃ A2 c2, e = .returned (.tuple #[.slice A2 n c2, .bool (allTo L n)]) ∧ Own iC 2 1 w' w.heap.size (.slice A2 n c2) (numsTo L n) ∧ Below w.heap.size w w' := by
  have HA := Lib.hid ha
  have HL := Lib.hid hl
  have HTS := Lib.hid hts
  clear ha hl hts
  go_enter Tryz.func99, Tryz.ntmps99
  go_wp2_with fail
  go_loopw [4, 5, 6] (fun v b i wr => ∃ k : Nat, k ≤ n ∧ i = .int .i64 (k : Int) ∧ b = .bool (allTo L k) ∧ Own iC 2 1 wr w.heap.size v (numsTo L k) ∧ Below w.heap.size w wr) (fun _ _ i _ => n - (intOf i).toNat)
  case atStart => exact ⟨0, Nat.zero_le _, rfl, rfl, Own.empty (Bk.new w #[] 2) (Nat.le_refl _), by go_grown⟩
  case round =>
    obtain ⟨k, hk, rfl, rfl, hown, hB⟩ := hrel
    have hBs := hB.size
    have HO := Lib.hid hown
    have HV : Hid (∀ b, u4.ownBlock = some b → w.heap.size ≤ b) := fun b hb => (hown.lt b hb).1
    clear hown
    by_cases hlt : k < n
    · have ka : k < L.length := by rw [HL.out]; exact hlt
      obtain ⟨b1, o1, rfl, l1, hc1⟩ := (HA.out.below hB).at sC_len HL.out ka
      obtain ⟨x, hx⟩ : ∃ x, L[k] = x := ⟨_, rfl⟩
      have hxs := HTS.out _ (List.getElem_mem ka)
      rw [hx] at hc1 hxs
      have a1 : wr.cell? ⟨b1, o1 + k, none⟩ = some (.string x) := by simpa using hc1 0 _ rfl
      have hnx := numsTo_next ka
      have han := allTo_next ka
      rw [hx] at hnx han
      obtain ⟨⟨z, zb⟩, hz⟩ : ∃ r, decR x.data.toList = r := ⟨_, rfl⟩
      rw [hz] at hnx han
      have HNX := Lib.hid hnx
      have HAN := Lib.hid han
      have HD := Lib.hid (l01Number_any x (by omega))
      rw [hz] at HD
      have hk0 : (0 : Int) ≤ (k : Int) := by omega
      have hkn : (k : Int) < (n : Int) := by omega
      have hwl : Hid ((numsTo L k).length = k) := numsTo_len (by omega)
      clear hc1 hx hnx hz han
      obtain ⟨v, hv⟩ : ∃ v, allTo L k = v := ⟨_, rfl⟩
      have HVV := Lib.hid hv
      rw [hv]
      clear hv
      go_wp2_with fail
      refine (HD.out _).mono ?_
      rintro e w3 ⟨rfl, hb3⟩
      unfold decV
      have hB3 := Below.next hB hb3
      have hB3s := hB3.size
      have HO3 := Lib.hid (HO.out.next hb3)
      clear hb3
      cases v
      all_goals
        go_wp2_with ((at_builtin; refine list_push elem_int (by rfl) (.tmp 28) (.tmp 30) 58 (by rfl) Tryz.underlying58 w.heap.size _ (numsTo L k) z (by rfl) (HO3.out.alloc _) k hwl.out w3.heap.size 1 (by rfl) (fun i u hu => ((Bk.new w3 #[.int .i64 z] 2).cell i).trans (by simpa [iC] using hu)) (by unfold maxLen; omega) (by omega) (by simp only [World.size_alloc]; omega) ?_; intro g5 cap5 w5 hown5 hgrow5 hat5 hlt5 hkeep5; have HO5 := Lib.hid hown5; have HG5 := Lib.hid hgrow5; clear hown5 hgrow5 hat5 hkeep5))
        go_roundw
        case rel => exact ⟨k + 1, by omega, by go_num, by rw [HAN.out, HVV.out]; rfl, by rw [HNX.out]; exact HO5.out, (hB3.alloc hB3s _).grown HG5.out (by simp only [World.size_alloc]; omega) HV.out⟩
        case measure => (simp [intOf]; try omega)
    · obtain rfl : k = n := by omega
      obtain ⟨A2, c2, hv, _, _, _⟩ := HO.out.rd
      have hwl : (numsTo L k).length = k := numsTo_len (by rw [HL.out]; exact Nat.le_refl _)
      rw [hwl] at hv
      subst hv
      go_wp2_with fail
      refine bodyPost_ret (by simp [results, Tryz.results99, go_sem, *]; try rfl) rfl ?_
      exact ⟨A2, c2, rfl, HO.out, hB⟩
theorem Own.addr {α : Type} {f : α → List Value} {E : TypeId} {size base n c : Nat} {w : World} {A : Option Addr} {l : List α} (h : Own f E size w base (.slice A n c) l) (hn : 0 < n) : ∃ g, A = some ⟨g, 0, none⟩ ∧ n ≤ c ∧ base ≤ g ∧ g < w.heap.size := by
  have h0 := h
  unfold Own World.ownsRow at h
  rcases h.2 with ⟨h1, h2⟩ | ⟨g, cap, cur, h1, h2, h3, h4, _⟩
  · injection h1 with h1 h5 h6
    omega
  · injection h1 with h1 h5 h6
    subst h1
    have h7 := h0.lt g (by simp [Value.ownBlock])
    exact ⟨g, rfl, by omega, h7.1, h7.2⟩
theorem rd_two {w : World} {g o : Nat} {x y : ByteArray} (hg : g < w.heap.size) (h0 : w.cell? ⟨g, o, none⟩ = some (.string x)) (h1 : w.cell? ⟨g, o + 1, none⟩ = some (.string y)) : Rd w (some ⟨g, o, none⟩) 2 1 (rowOf sC [x, y]) :=
  ⟨rfl, fun _ => ⟨g, o, rfl, hg, fun j u hu => by
    have e : rowOf sC [x, y] = [.string x, .string y] := rfl
    rw [e] at hu
    match j, hu with
    | 0, hu => injection hu with hu; subst hu; exact h0
    | 1, hu => injection hu with hu; subst hu; exact h1⟩⟩
def FaPostB (ok : Bool) (bF base : Nat) (q : FlP) (w : World) (e : Ending) (w' : World) : Prop := ∃ f', e = .returned (.bool ok) ∧ filePl f' = q ∧ FA w' bF base w'.heap.size f' ∧ Apart bF base w w'
end Go.Proofs.YtmdmjnhebbhjbaaGreatDoor
namespace Go.Proofs.YtmdmjnhebbhjbaaGreatDoor
set_option linter.unusedSimpArgs false
set_option linter.unusedVariables false
set_option maxRecDepth 20000
open Go.RowKit
open Go.ChangeShapes Go.WideShapes Go.Deep Go.Joins

set_option maxHeartbeats 4000000 in
theorem sfl_ch (bF base hi : Nat) (A1 A2 A3 : Option Addr) (c1 c2 c3 : Nat) (cs : List Ch) (ss : List (Sl (Sl Int))) (ns : List No) (p : FlP) (gw : Nat) (w : World) (hfa : FA w bF base hi ⟨⟨A1, c1, cs⟩, ⟨A2, c2, ss⟩, ⟨A3, c3, ns⟩⟩) (hp : filePl ⟨⟨A1, c1, cs⟩, ⟨A2, c2, ss⟩, ⟨A3, c3, ns⟩⟩ = p) (hgw : hi ≤ gw) (hgl : gw < w.heap.size) (hcnt : cs.length ≤ 1048576 ∧ ss.length ≤ 1048576 ∧ ns.length ≤ 1048576) (c : Nat) (hc : 5 ≤ c) (x0 x1 x2 x3 x4 : ByteArray) (hrd : RdT w (some ⟨gw, 0, none⟩) 5 [x0, x1, x2, x3, x4]) (hxx3 : x3.size ≤ 1048576) (hxx4 : x4.size ≤ 1048576) (e1 : (x0.toList == [99, 104, 97, 110, 110, 101, 108]) = true) (e2 : (x0.toList == [115, 116, 114, 111, 107, 101]) = false) (hss : ss = []) (hns : ns = []) (ok : Bool) (hok : Hid (((decR x3.data.toList).2 && (decR x4.data.toList).2) = ok)) :
    Calls Tryz.prog 53 #[.pointer (some ⟨bF, 0, none⟩), .slice (some ⟨gw, 0, none⟩) 5 c] w (FaPostB ok bF base (addCh p ⟨x1, x2, (decR x3.data.toList).1, (decR x4.data.toList).1⟩) w) := by
  obtain ⟨hbk, hmi, hlt, hlo, htop⟩ := hfa
  obtain ⟨k1, k2, k3⟩ := hcnt
  obtain ⟨n1, hn1⟩ : ∃ n, cs.length = n := ⟨_, rfl⟩
  obtain ⟨n2, hn2⟩ : ∃ n, ss.length = n := ⟨_, rfl⟩
  obtain ⟨n3, hn3⟩ : ∃ n, ns.length = n := ⟨_, rfl⟩
  have hbk' : Bk w bF 26 #[.slice A1 n1 c1, .slice A2 n2 c2, .slice A3 n3 c3] := by rw [← hn1, ← hn2, ← hn3]; exact hbk
  have HBK := Lib.hid hbk'
  have HMI := Lib.hid hmi
  have HP := Lib.hid hp
  have HN1 := Lib.hid hn1
  have HN2 := Lib.hid hn2
  have HN3 := Lib.hid hn3
  rw [hn1] at k1
  rw [hn2] at k2
  rw [hn3] at k3
  have hbl : bF < w.heap.size := hbk'.lt
  have hbg : ¬ gw = bF := by omega
  clear hbk hbk' hmi hp hn1 hn2 hn3
  obtain rfl : n2 = 0 := by rw [← HN2.out, hss]; rfl
  obtain rfl : n3 = 0 := by rw [← HN3.out, hns]; rfl
  have y0 : w.cell? ⟨gw, 0, none⟩ = some (.string x0) := hrd.get rfl (j := 0) (by simp)
  have Y0 := Lib.hid y0
  have y1 : w.cell? ⟨gw, 1, none⟩ = some (.string x1) := hrd.get rfl (j := 1) (by simp)
  have Y1 := Lib.hid y1
  have y2 : w.cell? ⟨gw, 2, none⟩ = some (.string x2) := hrd.get rfl (j := 2) (by simp)
  have Y2 := Lib.hid y2
  have y3 : w.cell? ⟨gw, 3, none⟩ = some (.string x3) := hrd.get rfl (j := 3) (by simp)
  have Y3 := Lib.hid y3
  have y4 : w.cell? ⟨gw, 4, none⟩ = some (.string x4) := hrd.get rfl (j := 4) (by simp)
  have Y4 := Lib.hid y4
  have b0 := HBK.out.cell 0
  have b1 := HBK.out.cell 1
  have b2 := HBK.out.cell 2
  have hrd2 := Lib.hid (rd_two hgl y3 y4)
  obtain ⟨⟨z1, o1⟩, hz1⟩ : ∃ r, decR x3.data.toList = r := ⟨_, rfl⟩
  obtain ⟨⟨z2, o2⟩, hz2⟩ : ∃ r, decR x4.data.toList = r := ⟨_, rfl⟩
  have hnum : numsTo [x3, x4] 2 = [z1, z2] := by
    show [(decR x3.data.toList).1, (decR x4.data.toList).1] = _
    rw [hz1, hz2]
  have hall : allTo [x3, x4] 2 = ok := by
    rw [← hok.out]
    show ((decR x3.data.toList).2 && ((decR x4.data.toList).2 && true)) = _
    rw [Bool.and_true]
  rw [hz1, hz2]
  have HNUM := Lib.hid hnum
  have HALL := Lib.hid hall
  clear hrd hz1 hz2 hnum hall
  go_enter Tryz.func53, Tryz.ntmps53
  go_wp2_with fail
  have hnc := l03Numbers_any (some ⟨gw, 3, none⟩) 2 (c - 3) [x3, x4] w hrd2.out rfl (by omega) (fun x hx => by
    rcases List.mem_cons.1 hx with rfl | hx
    · assumption
    · rw [List.mem_singleton] at hx; subst hx; assumption)
  rw [HNUM.out, HALL.out] at hnc
  refine hnc.mono ?_
  rintro e w4 ⟨AN, cN, rfl, hown4, hb4⟩
  have hBw4 : Below w.heap.size w w4 := hb4
  have hgl4 : gw < w4.heap.size := Nat.lt_of_lt_of_le hgl hBw4.size
  have hzw4 := hBw4.size
  obtain ⟨gN, rfl, hcN, hgN, hlN⟩ := hown4.addr (by omega)
  obtain ⟨_, _, _, _, _, hrdN⟩ := hown4.rd
  have hrdN := hown4.rdS (n := 2) rfl
  obtain ⟨_, _, ee, _, d0⟩ := hrdN.at iC_len rfl (show 0 < 2 by omega)
  cases ee
  obtain ⟨_, _, ee, _, d1⟩ := hrdN.at iC_len rfl (show 1 < 2 by omega)
  cases ee
  have m0 : w4.cell? ⟨gN, 0, none⟩ = some (.int .i64 z1) := by simpa using d0 0 _ rfl
  have m1 : w4.cell? ⟨gN, 1, none⟩ = some (.int .i64 z2) := by simpa using d1 0 _ rfl
  clear y0 y1 y2 y3 y4 b0 b1 b2 hnc hown4 hrdN d0 d1 hb4
  have y0w4 : w4.cell? ⟨gw, 0, none⟩ = some (.string x0) := (hBw4.cell (p := ⟨gw, 0, none⟩) hgl).trans Y0.out
  have y1w4 : w4.cell? ⟨gw, 1, none⟩ = some (.string x1) := (hBw4.cell (p := ⟨gw, 1, none⟩) hgl).trans Y1.out
  have y2w4 : w4.cell? ⟨gw, 2, none⟩ = some (.string x2) := (hBw4.cell (p := ⟨gw, 2, none⟩) hgl).trans Y2.out
  have y3w4 : w4.cell? ⟨gw, 3, none⟩ = some (.string x3) := (hBw4.cell (p := ⟨gw, 3, none⟩) hgl).trans Y3.out
  have y4w4 : w4.cell? ⟨gw, 4, none⟩ = some (.string x4) := (hBw4.cell (p := ⟨gw, 4, none⟩) hgl).trans Y4.out
  have hbkw4 := HBK.out.next hBw4
  have hbl4 := hbkw4.lt
  obtain ⟨v1, hv1⟩ : ∃ v, Value.slice A1 n1 c1 = v := ⟨_, rfl⟩
  have hvv : Value.slice A1 cs.length c1 = v1 := by rw [← hv1, HN1.out]
  have HI : Hid (∀ k, v1.ownBlock = some k → base ≤ k ∧ k < hi) := fun k hk => HMI.out.ch.rng k (Kd.fp_top (s := ⟨A1, c1, cs⟩) (by rw [← hvv] at hk; exact hk))
  have HOW : Hid (Own chC 90 4 w4 0 v1 cs) := by rw [← hvv]; exact (HMI.out.next hBw4).ch.own.1
  have HV := Lib.hid hvv
  have hbkv : Bk w4 bF 26 #[v1, .slice A2 0 c2, .slice A3 0 c3] := by rw [← hv1]; exact hbkw4
  have HBV := Lib.hid hbkv
  have cb : w4.cell? ⟨bF, 0, none⟩ = some v1 := hbkv.cell 0
  have fb : w4.frozen? ⟨bF, 0, none⟩ = false := hbkv.frozen 0
  have hu4 : ¬ v1.ownBlock = some gw := fun e => by have h2 := HI.out _ e; omega
  clear hvv hbkv hv1
  have hu5 : ¬ v1.ownBlock = some gN := fun e => by have h2 := HI.out _ e; omega
  have hn5 : ¬ gN = bF := by omega
  go_wp2_with fail
  refine wp_region_held_drew (S := (fun w' => (∀ kb ko, kb < w4.heap.size → ¬ v1.ownBlock = some kb → ¬ kb = bF → w'.cell? ⟨kb, ko, none⟩ = w4.cell? ⟨kb, ko, none⟩) ∧ w4.heap.size ≤ w'.heap.size ∧ Apart bF base w4 w')) (by kernel_rfl) ?_ (fun hHeld => ?_)
  · (try dsimp only); exact S5.mk ((Below.refl _ _).drew) (by omega)
  first | (refine take_on (i := 0) (v := ?_) rfl (by kernel_rfl) (by kernel_rfl) (by kernel_rfl) (fun _ _ _ h => h) rfl ?_ (by assumption) ?_; rotate_left; · (intro w' hSw; (try dsimp only at hSw); go_simp; (try with_reducible rfl))) | (refine take_off (i := 0) rfl (by kernel_rfl) (by kernel_rfl) (by kernel_rfl) (fun _ _ _ h => h) rfl (by assumption) ?_)
  (try simp only [Act.put, List.setIfInBounds_toArray, List.set_cons_zero, List.set_cons_succ])
  first | (refine take_on (i := 1) (v := ?_) rfl (by kernel_rfl) (by kernel_rfl) (by kernel_rfl) (fun _ _ _ h => h) rfl ?_ (by assumption) ?_; rotate_left; · (intro w' hSw; (try dsimp only at hSw); go_simp; (try with_reducible rfl))) | (refine take_off (i := 1) rfl (by kernel_rfl) (by kernel_rfl) (by kernel_rfl) (fun _ _ _ h => h) rfl (by assumption) ?_)
  (try simp only [Act.put, List.setIfInBounds_toArray, List.set_cons_zero, List.set_cons_succ])
  first | (refine take_on (i := 2) (v := ?_) rfl (by kernel_rfl) (by kernel_rfl) (by kernel_rfl) (fun _ _ _ h => h) rfl ?_ (by assumption) ?_; rotate_left; · (intro w' hSw; (try dsimp only at hSw); go_simp; (try with_reducible rfl))) | (refine take_off (i := 2) rfl (by kernel_rfl) (by kernel_rfl) (by kernel_rfl) (fun _ _ _ h => h) rfl (by assumption) ?_)
  (try simp only [Act.put, List.setIfInBounds_toArray, List.set_cons_zero, List.set_cons_succ])
  first | (refine take_on (i := 3) (v := ?_) rfl (by kernel_rfl) (by kernel_rfl) (by kernel_rfl) (fun _ _ _ h => h) rfl ?_ (by assumption) ?_; rotate_left; · (intro w' hSw; (try dsimp only at hSw); go_simp; (try with_reducible rfl))) | (refine take_off (i := 3) rfl (by kernel_rfl) (by kernel_rfl) (by kernel_rfl) (fun _ _ _ h => h) rfl (by assumption) ?_)
  (try simp only [Act.put, List.setIfInBounds_toArray, List.set_cons_zero, List.set_cons_succ])
  first | (refine take_on (i := 5) (v := ?_) rfl (by kernel_rfl) (by kernel_rfl) (by kernel_rfl) (fun _ _ _ h => h) rfl ?_ (by assumption) ?_; rotate_left; · (intro w' hSw; (try dsimp only at hSw); go_simp; (try with_reducible rfl))) | (refine take_off (i := 5) rfl (by kernel_rfl) (by kernel_rfl) (by kernel_rfl) (fun _ _ _ h => h) rfl (by assumption) ?_)
  (try simp only [Act.put, List.setIfInBounds_toArray, List.set_cons_zero, List.set_cons_succ])
  first | (refine take_on (i := 6) (v := ?_) rfl (by kernel_rfl) (by kernel_rfl) (by kernel_rfl) (fun _ _ _ h => h) rfl ?_ (by assumption) ?_; rotate_left; · (intro w' hSw; (try dsimp only at hSw); go_simp; (try with_reducible rfl))) | (refine take_off (i := 6) rfl (by kernel_rfl) (by kernel_rfl) (by kernel_rfl) (fun _ _ _ h => h) rfl (by assumption) ?_)
  (try simp only [Act.put, List.setIfInBounds_toArray, List.set_cons_zero, List.set_cons_succ])
  first | (refine take_on (i := 7) (v := ?_) rfl (by kernel_rfl) (by kernel_rfl) (by kernel_rfl) (fun _ _ _ h => h) rfl ?_ (by assumption) ?_; rotate_left; · (intro w' hSw; (try dsimp only at hSw); go_simp; (try with_reducible rfl))) | (refine take_off (i := 7) rfl (by kernel_rfl) (by kernel_rfl) (by kernel_rfl) (fun _ _ _ h => h) rfl (by assumption) ?_)
  (try simp only [Act.put, List.setIfInBounds_toArray, List.set_cons_zero, List.set_cons_succ])
  first | (refine take_on (i := 8) (v := ?_) rfl (by kernel_rfl) (by kernel_rfl) (by kernel_rfl) (fun _ _ _ h => h) rfl ?_ (by assumption) ?_; rotate_left; · (intro w' hSw; (try dsimp only at hSw); go_simp; (try with_reducible rfl))) | (refine take_off (i := 8) rfl (by kernel_rfl) (by kernel_rfl) (by kernel_rfl) (fun _ _ _ h => h) rfl (by assumption) ?_)
  (try simp only [Act.put, List.setIfInBounds_toArray, List.set_cons_zero, List.set_cons_succ])
  first | (refine take_on (i := 9) (v := ?_) rfl (by kernel_rfl) (by kernel_rfl) (by kernel_rfl) (fun _ _ _ h => h) rfl ?_ (by assumption) ?_; rotate_left; · (intro w' hSw; (try dsimp only at hSw); go_simp; (try with_reducible rfl))) | (refine take_off (i := 9) rfl (by kernel_rfl) (by kernel_rfl) (by kernel_rfl) (fun _ _ _ h => h) rfl (by assumption) ?_)
  (try simp only [Act.put, List.setIfInBounds_toArray, List.set_cons_zero, List.set_cons_succ])
  first | (refine take_on (i := 10) (v := ?_) rfl (by kernel_rfl) (by kernel_rfl) (by kernel_rfl) (fun _ _ _ h => h) rfl ?_ (by assumption) ?_; rotate_left; · (intro w' hSw; (try dsimp only at hSw); go_simp; (try with_reducible rfl))) | (refine take_off (i := 10) rfl (by kernel_rfl) (by kernel_rfl) (by kernel_rfl) (fun _ _ _ h => h) rfl (by assumption) ?_)
  (try simp only [Act.put, List.setIfInBounds_toArray, List.set_cons_zero, List.set_cons_succ])
  first | (refine take_on (i := 11) (v := ?_) rfl (by kernel_rfl) (by kernel_rfl) (by kernel_rfl) (fun _ _ _ h => h) rfl ?_ (by assumption) ?_; rotate_left; · (intro w' hSw; (try dsimp only at hSw); go_simp; (try with_reducible rfl))) | (refine take_off (i := 11) rfl (by kernel_rfl) (by kernel_rfl) (by kernel_rfl) (fun _ _ _ h => h) rfl (by assumption) ?_)
  (try simp only [Act.put, List.setIfInBounds_toArray, List.set_cons_zero, List.set_cons_succ])
  first | (refine take_on (i := 12) (v := ?_) rfl (by kernel_rfl) (by kernel_rfl) (by kernel_rfl) (fun _ _ _ h => h) rfl ?_ (by assumption) ?_; rotate_left; · (intro w' hSw; (try dsimp only at hSw); go_simp; (try with_reducible rfl))) | (refine take_off (i := 12) rfl (by kernel_rfl) (by kernel_rfl) (by kernel_rfl) (fun _ _ _ h => h) rfl (by assumption) ?_)
  (try simp only [Act.put, List.setIfInBounds_toArray, List.set_cons_zero, List.set_cons_succ])
  first | (refine take_on (i := 13) (v := ?_) rfl (by kernel_rfl) (by kernel_rfl) (by kernel_rfl) (fun _ _ _ h => h) rfl ?_ (by assumption) ?_; rotate_left; · (intro w' hSw; (try dsimp only at hSw); go_simp; (try with_reducible rfl))) | (refine take_off (i := 13) rfl (by kernel_rfl) (by kernel_rfl) (by kernel_rfl) (fun _ _ _ h => h) rfl (by assumption) ?_)
  (try simp only [Act.put, List.setIfInBounds_toArray, List.set_cons_zero, List.set_cons_succ])
  first | (refine take_on (i := 14) (v := ?_) rfl (by kernel_rfl) (by kernel_rfl) (by kernel_rfl) (fun _ _ _ h => h) rfl ?_ (by assumption) ?_; rotate_left; · (intro w' hSw; (try dsimp only at hSw); go_simp; (try with_reducible rfl))) | (refine take_off (i := 14) rfl (by kernel_rfl) (by kernel_rfl) (by kernel_rfl) (fun _ _ _ h => h) rfl (by assumption) ?_)
  (try simp only [Act.put, List.setIfInBounds_toArray, List.set_cons_zero, List.set_cons_succ])
  first | (refine take_on (i := 15) (v := ?_) rfl (by kernel_rfl) (by kernel_rfl) (by kernel_rfl) (fun _ _ _ h => h) rfl ?_ (by assumption) ?_; rotate_left; · (intro w' hSw; (try dsimp only at hSw); go_simp; (try with_reducible rfl))) | (refine take_off (i := 15) rfl (by kernel_rfl) (by kernel_rfl) (by kernel_rfl) (fun _ _ _ h => h) rfl (by assumption) ?_)
  (try simp only [Act.put, List.setIfInBounds_toArray, List.set_cons_zero, List.set_cons_succ])
  first | (refine take_on (i := 16) (v := ?_) rfl (by kernel_rfl) (by kernel_rfl) (by kernel_rfl) (fun _ _ _ h => h) rfl ?_ (by assumption) ?_; rotate_left; · (intro w' hSw; (try dsimp only at hSw); go_simp; (try with_reducible rfl))) | (refine take_off (i := 16) rfl (by kernel_rfl) (by kernel_rfl) (by kernel_rfl) (fun _ _ _ h => h) rfl (by assumption) ?_)
  (try simp only [Act.put, List.setIfInBounds_toArray, List.set_cons_zero, List.set_cons_succ])
  first | (refine take_on (i := 17) (v := ?_) rfl (by kernel_rfl) (by kernel_rfl) (by kernel_rfl) (fun _ _ _ h => h) rfl ?_ (by assumption) ?_; rotate_left; · (intro w' hSw; (try dsimp only at hSw); go_simp; (try with_reducible rfl))) | (refine take_off (i := 17) rfl (by kernel_rfl) (by kernel_rfl) (by kernel_rfl) (fun _ _ _ h => h) rfl (by assumption) ?_)
  (try simp only [Act.put, List.setIfInBounds_toArray, List.set_cons_zero, List.set_cons_succ])
  refine wpAnyH_ready (rs := [4, 18]) (by kernel_rfl) (by simp) ?_
  refine AllReadyH.cons rfl (fun K hK => ?_) (AllReadyH.cons rfl (fun K hK => ?_) (AllReadyH.nil))
  · rw [if_pos (by rfl)]
    go_simp
    refine hK.out _ _ ?_ (fun hHeld2 => ?_)
    · (try dsimp only); exact hHeld
    clear hK K hHeld; have hHeld := hHeld2; clear hHeld2; (try simp only [Act.put, List.setIfInBounds_toArray, List.set_cons_zero, List.set_cons_succ])
    refine wpAnyH_ready (rs := [18]) (by kernel_rfl) (by simp) ?_
    refine AllReadyH.cons rfl (fun K hK => ?_) AllReadyH.nil
    rw [if_pos (by rfl)]
    go_simp
    refine hK.out _ _ ?_ (fun hHeld2 => ?_)
    · (try dsimp only); exact S5.mk (by go_grown) (by omega)
    clear hK K hHeld; have hHeld := hHeld2; clear hHeld2; (try simp only [Act.put, List.setIfInBounds_toArray, List.set_cons_zero, List.set_cons_succ])
    refine wpAnyH_ready (rs := [19]) (by kernel_rfl) (by simp) ?_
    refine AllReadyH.cons rfl (fun K hK => ?_) AllReadyH.nil
    refine step_push elem_ch (by rfl) (.tmp 49) (.tmp 63) 22 (by rfl) Tryz.underlying22 0 v1 cs (⟨x1, x2, z1, z2⟩ : Ch) (by rfl) (HOW.out.alloc _) n1 HN1.out w4.heap.size 1 (by rfl) (fun i u hu => ((Bk.new w4 #[.string x1, .string x2, .int .i64 z1, .int .i64 z2] 90).cell i).trans (by simpa [chC] using hu)) (by unfold maxLen; omega) (by omega) (by simp only [World.size_drew, World.size_alloc]; omega) ?_
    intro g5 cap5 w5 hown5 hgrow5 hat5 hlt5 hkeep5
    have hz5 := hgrow5.size
    simp only [World.size_drew, World.size_alloc] at hz5
    have hbk5 : Bk w5 bF 26 #[v1, .slice A2 0 c2, .slice A3 0 c3] := (hgrow5.block _ (by simp only [World.size_drew, World.size_alloc]; omega) (fun e => by have h2 := HI.out _ e.symm; omega)).trans (HBV.out.alloc _)
    have e5' := hbk5.cell 0
    have f5 := hbk5.frozen 0
    have hgl5 := hbk5.lt
    refine hK.out _ _ ?_ (fun hHeld2 => ?_)
    · (try dsimp only); exact S5.push hHeld hgrow5 (fun k hk => (HI.out k hk).1) (by simp only [World.size_drew, World.size_alloc]; omega)
    clear hK K hHeld; have hHeld := hHeld2; clear hHeld2; (try simp only [Act.put, List.setIfInBounds_toArray, List.set_cons_zero, List.set_cons_succ])
    first | (refine take_on (i := 20) (v := ?_) rfl (by kernel_rfl) (by kernel_rfl) (by kernel_rfl) (fun _ _ _ h => h) rfl ?_ (by assumption) ?_; rotate_left; · (intro w' hSw; (try dsimp only at hSw); go_simp; (try with_reducible rfl))) | (refine take_off (i := 20) rfl (by kernel_rfl) (by kernel_rfl) (by kernel_rfl) (fun _ _ _ h => h) rfl (by assumption) ?_)
    (try simp only [Act.put, List.setIfInBounds_toArray, List.set_cons_zero, List.set_cons_succ])
    first | (refine take_on (i := 21) (v := ?_) rfl (by kernel_rfl) (by kernel_rfl) (by kernel_rfl) (fun _ _ _ h => h) rfl ?_ (by assumption) ?_; rotate_left; · (intro w' hSw; (try dsimp only at hSw); go_simp; (try with_reducible rfl))) | (refine take_off (i := 21) rfl (by kernel_rfl) (by kernel_rfl) (by kernel_rfl) (fun _ _ _ h => h) rfl (by assumption) ?_)
    (try simp only [Act.put, List.setIfInBounds_toArray, List.set_cons_zero, List.set_cons_succ])
    refine wpAnyH_ready (rs := [22]) (by kernel_rfl) (by simp) ?_
    refine AllReadyH.cons rfl (fun K hK => ?_) AllReadyH.nil
    rw [if_pos (by rfl)]
    go_simp
    refine hK.out _ _ ?_ (fun hHeld2 => ?_)
    · (try dsimp only); exact S5.storeo 0 hHeld _
    clear hK K hHeld; have hHeld := hHeld2; clear hHeld2; (try simp only [Act.put, List.setIfInBounds_toArray, List.set_cons_zero, List.set_cons_succ])
    refine wpAnyH_done (by kernel_rfl) ?_ _
    have hS := hHeld.2.2
    clear hHeld
    go_wp2_with fail
    go_ret
    have hg5 := hgrow5
    rw [← HV.out] at hg5
    have ha5 := hat5
    rw [← HV.out] at ha5
    have hpush := FileMine.pushCh (g := g5) (cap := cap5) (B := 0) (wi := w4) (a := (⟨x1, x2, z1, z2⟩ : Ch)) (HMI.out.next hBw4) (by omega) hlo (by go_grown) hg5 ha5 hlt5 (by rw [HN1.out]; exact hown5)
    have hsz : (w5.setCell ⟨bF, 0, none⟩ (.slice (some ⟨g5, 0, none⟩) (n1 + 1) cap5)).heap.size = w5.heap.size := by simp [World.setCell]
    refine ⟨⟨⟨some ⟨g5, 0, none⟩, cap5, cs ++ [(⟨x1, x2, z1, z2⟩ : Ch)]⟩, ⟨A2, c2, ss⟩, ⟨A3, c3, ns⟩⟩, rfl, by rw [← HP.out]; rfl, ⟨?_, ?_, hlt, ?_, ?_⟩, ?_⟩
    · have h1 := hbk5.put 0 (.slice (some ⟨g5, 0, none⟩) (n1 + 1) cap5)
      show Bk _ bF 26 #[.slice (some ⟨g5, 0, none⟩) (cs ++ [(⟨x1, x2, z1, z2⟩ : Ch)]).length cap5, .slice A2 ss.length c2, .slice A3 ns.length c3]
      rw [List.length_append, HN1.out, HN2.out, HN3.out]
      simpa using h1
    · have h2 := hpush.set (bF := bF) (o := 0) (u := .slice (some ⟨g5, 0, none⟩) (n1 + 1) cap5) hlt
      exact h2.low (Nat.le_refl _) (by rw [hsz]; exact Nat.le_refl _)
    · rw [hsz]; omega
    · rw [hsz]; exact Nat.le_refl _
    · exact (Apart.of_below (hBw4.mono (show base ≤ w.heap.size by omega))).trans hS
  · rw [if_pos (by rfl)]
    go_simp
    refine hK.out _ _ ?_ (fun hHeld2 => ?_)
    · (try dsimp only); exact S5.mk (by go_grown) (by omega)
    clear hK K hHeld; have hHeld := hHeld2; clear hHeld2; (try simp only [Act.put, List.setIfInBounds_toArray, List.set_cons_zero, List.set_cons_succ])
    refine wpAnyH_ready (rs := [4]) (by kernel_rfl) (by simp) ?_
    refine AllReadyH.cons rfl (fun K hK => ?_) AllReadyH.nil
    rw [if_pos (by rfl)]
    go_simp
    refine hK.out _ _ ?_ (fun hHeld2 => ?_)
    · (try dsimp only); exact hHeld
    clear hK K hHeld; have hHeld := hHeld2; clear hHeld2; (try simp only [Act.put, List.setIfInBounds_toArray, List.set_cons_zero, List.set_cons_succ])
    refine wpAnyH_ready (rs := [19]) (by kernel_rfl) (by simp) ?_
    refine AllReadyH.cons rfl (fun K hK => ?_) AllReadyH.nil
    refine step_push elem_ch (by rfl) (.tmp 49) (.tmp 63) 22 (by rfl) Tryz.underlying22 0 v1 cs (⟨x1, x2, z1, z2⟩ : Ch) (by rfl) (HOW.out.alloc _) n1 HN1.out w4.heap.size 1 (by rfl) (fun i u hu => ((Bk.new w4 #[.string x1, .string x2, .int .i64 z1, .int .i64 z2] 90).cell i).trans (by simpa [chC] using hu)) (by unfold maxLen; omega) (by omega) (by simp only [World.size_drew, World.size_alloc]; omega) ?_
    intro g5 cap5 w5 hown5 hgrow5 hat5 hlt5 hkeep5
    have hz5 := hgrow5.size
    simp only [World.size_drew, World.size_alloc] at hz5
    have hbk5 : Bk w5 bF 26 #[v1, .slice A2 0 c2, .slice A3 0 c3] := (hgrow5.block _ (by simp only [World.size_drew, World.size_alloc]; omega) (fun e => by have h2 := HI.out _ e.symm; omega)).trans (HBV.out.alloc _)
    have e5' := hbk5.cell 0
    have f5 := hbk5.frozen 0
    have hgl5 := hbk5.lt
    refine hK.out _ _ ?_ (fun hHeld2 => ?_)
    · (try dsimp only); exact S5.push hHeld hgrow5 (fun k hk => (HI.out k hk).1) (by simp only [World.size_drew, World.size_alloc]; omega)
    clear hK K hHeld; have hHeld := hHeld2; clear hHeld2; (try simp only [Act.put, List.setIfInBounds_toArray, List.set_cons_zero, List.set_cons_succ])
    first | (refine take_on (i := 20) (v := ?_) rfl (by kernel_rfl) (by kernel_rfl) (by kernel_rfl) (fun _ _ _ h => h) rfl ?_ (by assumption) ?_; rotate_left; · (intro w' hSw; (try dsimp only at hSw); go_simp; (try with_reducible rfl))) | (refine take_off (i := 20) rfl (by kernel_rfl) (by kernel_rfl) (by kernel_rfl) (fun _ _ _ h => h) rfl (by assumption) ?_)
    (try simp only [Act.put, List.setIfInBounds_toArray, List.set_cons_zero, List.set_cons_succ])
    first | (refine take_on (i := 21) (v := ?_) rfl (by kernel_rfl) (by kernel_rfl) (by kernel_rfl) (fun _ _ _ h => h) rfl ?_ (by assumption) ?_; rotate_left; · (intro w' hSw; (try dsimp only at hSw); go_simp; (try with_reducible rfl))) | (refine take_off (i := 21) rfl (by kernel_rfl) (by kernel_rfl) (by kernel_rfl) (fun _ _ _ h => h) rfl (by assumption) ?_)
    (try simp only [Act.put, List.setIfInBounds_toArray, List.set_cons_zero, List.set_cons_succ])
    refine wpAnyH_ready (rs := [22]) (by kernel_rfl) (by simp) ?_
    refine AllReadyH.cons rfl (fun K hK => ?_) AllReadyH.nil
    rw [if_pos (by rfl)]
    go_simp
    refine hK.out _ _ ?_ (fun hHeld2 => ?_)
    · (try dsimp only); exact S5.storeo 0 hHeld _
    clear hK K hHeld; have hHeld := hHeld2; clear hHeld2; (try simp only [Act.put, List.setIfInBounds_toArray, List.set_cons_zero, List.set_cons_succ])
    refine wpAnyH_done (by kernel_rfl) ?_ _
    have hS := hHeld.2.2
    clear hHeld
    go_wp2_with fail
    go_ret
    have hg5 := hgrow5
    rw [← HV.out] at hg5
    have ha5 := hat5
    rw [← HV.out] at ha5
    have hpush := FileMine.pushCh (g := g5) (cap := cap5) (B := 0) (wi := w4) (a := (⟨x1, x2, z1, z2⟩ : Ch)) (HMI.out.next hBw4) (by omega) hlo (by go_grown) hg5 ha5 hlt5 (by rw [HN1.out]; exact hown5)
    have hsz : (w5.setCell ⟨bF, 0, none⟩ (.slice (some ⟨g5, 0, none⟩) (n1 + 1) cap5)).heap.size = w5.heap.size := by simp [World.setCell]
    refine ⟨⟨⟨some ⟨g5, 0, none⟩, cap5, cs ++ [(⟨x1, x2, z1, z2⟩ : Ch)]⟩, ⟨A2, c2, ss⟩, ⟨A3, c3, ns⟩⟩, rfl, by rw [← HP.out]; rfl, ⟨?_, ?_, hlt, ?_, ?_⟩, ?_⟩
    · have h1 := hbk5.put 0 (.slice (some ⟨g5, 0, none⟩) (n1 + 1) cap5)
      show Bk _ bF 26 #[.slice (some ⟨g5, 0, none⟩) (cs ++ [(⟨x1, x2, z1, z2⟩ : Ch)]).length cap5, .slice A2 ss.length c2, .slice A3 ns.length c3]
      rw [List.length_append, HN1.out, HN2.out, HN3.out]
      simpa using h1
    · have h2 := hpush.set (bF := bF) (o := 0) (u := .slice (some ⟨g5, 0, none⟩) (n1 + 1) cap5) hlt
      exact h2.low (Nat.le_refl _) (by rw [hsz]; exact Nat.le_refl _)
    · rw [hsz]; omega
    · rw [hsz]; exact Nat.le_refl _
    · exact (Apart.of_below (hBw4.mono (show base ≤ w.heap.size by omega))).trans hS
set_option maxHeartbeats 4000000 in
theorem sfl_no (bF base hi : Nat) (A1 A2 A3 : Option Addr) (c1 c2 c3 : Nat) (cs : List Ch) (ss : List (Sl (Sl Int))) (ns : List No) (p : FlP) (gw : Nat) (w : World) (hfa : FA w bF base hi ⟨⟨A1, c1, cs⟩, ⟨A2, c2, ss⟩, ⟨A3, c3, ns⟩⟩) (hp : filePl ⟨⟨A1, c1, cs⟩, ⟨A2, c2, ss⟩, ⟨A3, c3, ns⟩⟩ = p) (hgw : hi ≤ gw) (hgl : gw < w.heap.size) (hcnt : cs.length ≤ 1048576 ∧ ss.length ≤ 1048576 ∧ ns.length ≤ 1048576) (c : Nat) (hc : 4 ≤ c) (x0 x1 x2 x3 : ByteArray) (hrd : RdT w (some ⟨gw, 0, none⟩) 4 [x0, x1, x2, x3]) (hxx1 : x1.size ≤ 1048576) (hxx2 : x2.size ≤ 1048576) (e1 : (x0.toList == [99, 104, 97, 110, 110, 101, 108]) = false) (e2 : (x0.toList == [115, 116, 114, 111, 107, 101]) = false) (e3 : (x0.toList == [110, 111, 116, 101]) = true) (ok : Bool) (hok : Hid (((decR x1.data.toList).2 && (decR x2.data.toList).2) = ok)) :
    Calls Tryz.prog 53 #[.pointer (some ⟨bF, 0, none⟩), .slice (some ⟨gw, 0, none⟩) 4 c] w (FaPostB ok bF base (addNo p ⟨(decR x1.data.toList).1, (decR x2.data.toList).1, x3⟩) w) := by
  obtain ⟨hbk, hmi, hlt, hlo, htop⟩ := hfa
  obtain ⟨k1, k2, k3⟩ := hcnt
  obtain ⟨n1, hn1⟩ : ∃ n, cs.length = n := ⟨_, rfl⟩
  obtain ⟨n2, hn2⟩ : ∃ n, ss.length = n := ⟨_, rfl⟩
  obtain ⟨n3, hn3⟩ : ∃ n, ns.length = n := ⟨_, rfl⟩
  have hbk' : Bk w bF 26 #[.slice A1 n1 c1, .slice A2 n2 c2, .slice A3 n3 c3] := by rw [← hn1, ← hn2, ← hn3]; exact hbk
  have HBK := Lib.hid hbk'
  have HMI := Lib.hid hmi
  have HP := Lib.hid hp
  have HN1 := Lib.hid hn1
  have HN2 := Lib.hid hn2
  have HN3 := Lib.hid hn3
  rw [hn1] at k1
  rw [hn2] at k2
  rw [hn3] at k3
  have hbl : bF < w.heap.size := hbk'.lt
  have hbg : ¬ gw = bF := by omega
  clear hbk hbk' hmi hp hn1 hn2 hn3
  have y0 : w.cell? ⟨gw, 0, none⟩ = some (.string x0) := hrd.get rfl (j := 0) (by simp)
  have Y0 := Lib.hid y0
  have y1 : w.cell? ⟨gw, 1, none⟩ = some (.string x1) := hrd.get rfl (j := 1) (by simp)
  have Y1 := Lib.hid y1
  have y2 : w.cell? ⟨gw, 2, none⟩ = some (.string x2) := hrd.get rfl (j := 2) (by simp)
  have Y2 := Lib.hid y2
  have y3 : w.cell? ⟨gw, 3, none⟩ = some (.string x3) := hrd.get rfl (j := 3) (by simp)
  have Y3 := Lib.hid y3
  have b0 := HBK.out.cell 0
  have b1 := HBK.out.cell 1
  have b2 := HBK.out.cell 2
  have hrd2 := Lib.hid (rd_two hgl y1 y2)
  obtain ⟨⟨z1, o1⟩, hz1⟩ : ∃ r, decR x1.data.toList = r := ⟨_, rfl⟩
  obtain ⟨⟨z2, o2⟩, hz2⟩ : ∃ r, decR x2.data.toList = r := ⟨_, rfl⟩
  have hnum : numsTo [x1, x2] 2 = [z1, z2] := by
    show [(decR x1.data.toList).1, (decR x2.data.toList).1] = _
    rw [hz1, hz2]
  have hall : allTo [x1, x2] 2 = ok := by
    rw [← hok.out]
    show ((decR x1.data.toList).2 && ((decR x2.data.toList).2 && true)) = _
    rw [Bool.and_true]
  rw [hz1, hz2]
  have HNUM := Lib.hid hnum
  have HALL := Lib.hid hall
  clear hrd hz1 hz2 hnum hall
  go_enter Tryz.func53, Tryz.ntmps53
  go_wp2_with fail
  have hnc := l03Numbers_any (some ⟨gw, 1, none⟩) 2 (c - 1) [x1, x2] w hrd2.out rfl (by omega) (fun x hx => by
    rcases List.mem_cons.1 hx with rfl | hx
    · assumption
    · rw [List.mem_singleton] at hx; subst hx; assumption)
  rw [HNUM.out, HALL.out] at hnc
  refine hnc.mono ?_
  rintro e w4 ⟨AN, cN, rfl, hown4, hb4⟩
  have hBw4 : Below w.heap.size w w4 := hb4
  have hgl4 : gw < w4.heap.size := Nat.lt_of_lt_of_le hgl hBw4.size
  have hzw4 := hBw4.size
  obtain ⟨gN, rfl, hcN, hgN, hlN⟩ := hown4.addr (by omega)
  obtain ⟨_, _, _, _, _, hrdN⟩ := hown4.rd
  have hrdN := hown4.rdS (n := 2) rfl
  obtain ⟨_, _, ee, _, d0⟩ := hrdN.at iC_len rfl (show 0 < 2 by omega)
  cases ee
  obtain ⟨_, _, ee, _, d1⟩ := hrdN.at iC_len rfl (show 1 < 2 by omega)
  cases ee
  have m0 : w4.cell? ⟨gN, 0, none⟩ = some (.int .i64 z1) := by simpa using d0 0 _ rfl
  have m1 : w4.cell? ⟨gN, 1, none⟩ = some (.int .i64 z2) := by simpa using d1 0 _ rfl
  clear y0 y1 y2 y3 b0 b1 b2 hnc hown4 hrdN d0 d1 hb4
  have y0w4 : w4.cell? ⟨gw, 0, none⟩ = some (.string x0) := (hBw4.cell (p := ⟨gw, 0, none⟩) hgl).trans Y0.out
  have y1w4 : w4.cell? ⟨gw, 1, none⟩ = some (.string x1) := (hBw4.cell (p := ⟨gw, 1, none⟩) hgl).trans Y1.out
  have y2w4 : w4.cell? ⟨gw, 2, none⟩ = some (.string x2) := (hBw4.cell (p := ⟨gw, 2, none⟩) hgl).trans Y2.out
  have y3w4 : w4.cell? ⟨gw, 3, none⟩ = some (.string x3) := (hBw4.cell (p := ⟨gw, 3, none⟩) hgl).trans Y3.out
  have hbkw4 := HBK.out.next hBw4
  have hbl4 := hbkw4.lt
  obtain ⟨v3, hv3⟩ : ∃ v, Value.slice A3 n3 c3 = v := ⟨_, rfl⟩
  have hvv : Value.slice A3 ns.length c3 = v3 := by rw [← hv3, HN3.out]
  have HI : Hid (∀ k, v3.ownBlock = some k → base ≤ k ∧ k < hi) := fun k hk => HMI.out.no.rng k (Kd.fp_top (s := ⟨A3, c3, ns⟩) (by rw [← hvv] at hk; exact hk))
  have HOW : Hid (Own noC 95 3 w4 0 v3 ns) := by rw [← hvv]; exact (HMI.out.next hBw4).no.own.1
  have HV := Lib.hid hvv
  have hbkv : Bk w4 bF 26 #[.slice A1 n1 c1, .slice A2 n2 c2, v3] := by rw [← hv3]; exact hbkw4
  have HBV := Lib.hid hbkv
  have cb : w4.cell? ⟨bF, 2, none⟩ = some v3 := hbkv.cell 2
  have fb : w4.frozen? ⟨bF, 2, none⟩ = false := hbkv.frozen 2
  have hu4 : ¬ v3.ownBlock = some gw := fun e => by have h2 := HI.out _ e; omega
  clear hvv hbkv hv3
  have hu5 : ¬ v3.ownBlock = some gN := fun e => by have h2 := HI.out _ e; omega
  have hn5 : ¬ gN = bF := by omega
  go_wp2_with fail
  refine wp_region_held_drew (S := (fun w' => (∀ kb ko, kb < w4.heap.size → ¬ v3.ownBlock = some kb → ¬ kb = bF → w'.cell? ⟨kb, ko, none⟩ = w4.cell? ⟨kb, ko, none⟩) ∧ w4.heap.size ≤ w'.heap.size ∧ Apart bF base w4 w')) (by kernel_rfl) ?_ (fun hHeld => ?_)
  · (try dsimp only); exact S5.mk ((Below.refl _ _).drew) (by omega)
  first | (refine take_on (i := 0) (v := ?_) rfl (by kernel_rfl) (by kernel_rfl) (by kernel_rfl) (fun _ _ _ h => h) rfl ?_ (by assumption) ?_; rotate_left; · (intro w' hSw; (try dsimp only at hSw); go_simp; (try with_reducible rfl))) | (refine take_off (i := 0) rfl (by kernel_rfl) (by kernel_rfl) (by kernel_rfl) (fun _ _ _ h => h) rfl (by assumption) ?_)
  (try simp only [Act.put, List.setIfInBounds_toArray, List.set_cons_zero, List.set_cons_succ])
  first | (refine take_on (i := 1) (v := ?_) rfl (by kernel_rfl) (by kernel_rfl) (by kernel_rfl) (fun _ _ _ h => h) rfl ?_ (by assumption) ?_; rotate_left; · (intro w' hSw; (try dsimp only at hSw); go_simp; (try with_reducible rfl))) | (refine take_off (i := 1) rfl (by kernel_rfl) (by kernel_rfl) (by kernel_rfl) (fun _ _ _ h => h) rfl (by assumption) ?_)
  (try simp only [Act.put, List.setIfInBounds_toArray, List.set_cons_zero, List.set_cons_succ])
  first | (refine take_on (i := 2) (v := ?_) rfl (by kernel_rfl) (by kernel_rfl) (by kernel_rfl) (fun _ _ _ h => h) rfl ?_ (by assumption) ?_; rotate_left; · (intro w' hSw; (try dsimp only at hSw); go_simp; (try with_reducible rfl))) | (refine take_off (i := 2) rfl (by kernel_rfl) (by kernel_rfl) (by kernel_rfl) (fun _ _ _ h => h) rfl (by assumption) ?_)
  (try simp only [Act.put, List.setIfInBounds_toArray, List.set_cons_zero, List.set_cons_succ])
  first | (refine take_on (i := 3) (v := ?_) rfl (by kernel_rfl) (by kernel_rfl) (by kernel_rfl) (fun _ _ _ h => h) rfl ?_ (by assumption) ?_; rotate_left; · (intro w' hSw; (try dsimp only at hSw); go_simp; (try with_reducible rfl))) | (refine take_off (i := 3) rfl (by kernel_rfl) (by kernel_rfl) (by kernel_rfl) (fun _ _ _ h => h) rfl (by assumption) ?_)
  (try simp only [Act.put, List.setIfInBounds_toArray, List.set_cons_zero, List.set_cons_succ])
  first | (refine take_on (i := 5) (v := ?_) rfl (by kernel_rfl) (by kernel_rfl) (by kernel_rfl) (fun _ _ _ h => h) rfl ?_ (by assumption) ?_; rotate_left; · (intro w' hSw; (try dsimp only at hSw); go_simp; (try with_reducible rfl))) | (refine take_off (i := 5) rfl (by kernel_rfl) (by kernel_rfl) (by kernel_rfl) (fun _ _ _ h => h) rfl (by assumption) ?_)
  (try simp only [Act.put, List.setIfInBounds_toArray, List.set_cons_zero, List.set_cons_succ])
  first | (refine take_on (i := 6) (v := ?_) rfl (by kernel_rfl) (by kernel_rfl) (by kernel_rfl) (fun _ _ _ h => h) rfl ?_ (by assumption) ?_; rotate_left; · (intro w' hSw; (try dsimp only at hSw); go_simp; (try with_reducible rfl))) | (refine take_off (i := 6) rfl (by kernel_rfl) (by kernel_rfl) (by kernel_rfl) (fun _ _ _ h => h) rfl (by assumption) ?_)
  (try simp only [Act.put, List.setIfInBounds_toArray, List.set_cons_zero, List.set_cons_succ])
  first | (refine take_on (i := 7) (v := ?_) rfl (by kernel_rfl) (by kernel_rfl) (by kernel_rfl) (fun _ _ _ h => h) rfl ?_ (by assumption) ?_; rotate_left; · (intro w' hSw; (try dsimp only at hSw); go_simp; (try with_reducible rfl))) | (refine take_off (i := 7) rfl (by kernel_rfl) (by kernel_rfl) (by kernel_rfl) (fun _ _ _ h => h) rfl (by assumption) ?_)
  (try simp only [Act.put, List.setIfInBounds_toArray, List.set_cons_zero, List.set_cons_succ])
  first | (refine take_on (i := 8) (v := ?_) rfl (by kernel_rfl) (by kernel_rfl) (by kernel_rfl) (fun _ _ _ h => h) rfl ?_ (by assumption) ?_; rotate_left; · (intro w' hSw; (try dsimp only at hSw); go_simp; (try with_reducible rfl))) | (refine take_off (i := 8) rfl (by kernel_rfl) (by kernel_rfl) (by kernel_rfl) (fun _ _ _ h => h) rfl (by assumption) ?_)
  (try simp only [Act.put, List.setIfInBounds_toArray, List.set_cons_zero, List.set_cons_succ])
  first | (refine take_on (i := 9) (v := ?_) rfl (by kernel_rfl) (by kernel_rfl) (by kernel_rfl) (fun _ _ _ h => h) rfl ?_ (by assumption) ?_; rotate_left; · (intro w' hSw; (try dsimp only at hSw); go_simp; (try with_reducible rfl))) | (refine take_off (i := 9) rfl (by kernel_rfl) (by kernel_rfl) (by kernel_rfl) (fun _ _ _ h => h) rfl (by assumption) ?_)
  (try simp only [Act.put, List.setIfInBounds_toArray, List.set_cons_zero, List.set_cons_succ])
  first | (refine take_on (i := 10) (v := ?_) rfl (by kernel_rfl) (by kernel_rfl) (by kernel_rfl) (fun _ _ _ h => h) rfl ?_ (by assumption) ?_; rotate_left; · (intro w' hSw; (try dsimp only at hSw); go_simp; (try with_reducible rfl))) | (refine take_off (i := 10) rfl (by kernel_rfl) (by kernel_rfl) (by kernel_rfl) (fun _ _ _ h => h) rfl (by assumption) ?_)
  (try simp only [Act.put, List.setIfInBounds_toArray, List.set_cons_zero, List.set_cons_succ])
  first | (refine take_on (i := 11) (v := ?_) rfl (by kernel_rfl) (by kernel_rfl) (by kernel_rfl) (fun _ _ _ h => h) rfl ?_ (by assumption) ?_; rotate_left; · (intro w' hSw; (try dsimp only at hSw); go_simp; (try with_reducible rfl))) | (refine take_off (i := 11) rfl (by kernel_rfl) (by kernel_rfl) (by kernel_rfl) (fun _ _ _ h => h) rfl (by assumption) ?_)
  (try simp only [Act.put, List.setIfInBounds_toArray, List.set_cons_zero, List.set_cons_succ])
  first | (refine take_on (i := 12) (v := ?_) rfl (by kernel_rfl) (by kernel_rfl) (by kernel_rfl) (fun _ _ _ h => h) rfl ?_ (by assumption) ?_; rotate_left; · (intro w' hSw; (try dsimp only at hSw); go_simp; (try with_reducible rfl))) | (refine take_off (i := 12) rfl (by kernel_rfl) (by kernel_rfl) (by kernel_rfl) (fun _ _ _ h => h) rfl (by assumption) ?_)
  (try simp only [Act.put, List.setIfInBounds_toArray, List.set_cons_zero, List.set_cons_succ])
  first | (refine take_on (i := 13) (v := ?_) rfl (by kernel_rfl) (by kernel_rfl) (by kernel_rfl) (fun _ _ _ h => h) rfl ?_ (by assumption) ?_; rotate_left; · (intro w' hSw; (try dsimp only at hSw); go_simp; (try with_reducible rfl))) | (refine take_off (i := 13) rfl (by kernel_rfl) (by kernel_rfl) (by kernel_rfl) (fun _ _ _ h => h) rfl (by assumption) ?_)
  (try simp only [Act.put, List.setIfInBounds_toArray, List.set_cons_zero, List.set_cons_succ])
  first | (refine take_on (i := 14) (v := ?_) rfl (by kernel_rfl) (by kernel_rfl) (by kernel_rfl) (fun _ _ _ h => h) rfl ?_ (by assumption) ?_; rotate_left; · (intro w' hSw; (try dsimp only at hSw); go_simp; (try with_reducible rfl))) | (refine take_off (i := 14) rfl (by kernel_rfl) (by kernel_rfl) (by kernel_rfl) (fun _ _ _ h => h) rfl (by assumption) ?_)
  (try simp only [Act.put, List.setIfInBounds_toArray, List.set_cons_zero, List.set_cons_succ])
  refine wpAnyH_ready (rs := [4, 15]) (by kernel_rfl) (by simp) ?_
  refine AllReadyH.cons rfl (fun K hK => ?_) (AllReadyH.cons rfl (fun K hK => ?_) (AllReadyH.nil))
  · rw [if_pos (by rfl)]
    go_simp
    refine hK.out _ _ ?_ (fun hHeld2 => ?_)
    · (try dsimp only); exact hHeld
    clear hK K hHeld; have hHeld := hHeld2; clear hHeld2; (try simp only [Act.put, List.setIfInBounds_toArray, List.set_cons_zero, List.set_cons_succ])
    refine wpAnyH_ready (rs := [15]) (by kernel_rfl) (by simp) ?_
    refine AllReadyH.cons rfl (fun K hK => ?_) AllReadyH.nil
    rw [if_pos (by rfl)]
    go_simp
    refine hK.out _ _ ?_ (fun hHeld2 => ?_)
    · (try dsimp only); exact S5.mk (by go_grown) (by omega)
    clear hK K hHeld; have hHeld := hHeld2; clear hHeld2; (try simp only [Act.put, List.setIfInBounds_toArray, List.set_cons_zero, List.set_cons_succ])
    refine wpAnyH_ready (rs := [16]) (by kernel_rfl) (by simp) ?_
    refine AllReadyH.cons rfl (fun K hK => ?_) AllReadyH.nil
    refine step_push elem_no (by rfl) (.tmp 135) (.tmp 146) 24 (by rfl) Tryz.underlying24 0 v3 ns (⟨z1, z2, x3⟩ : No) (by rfl) (HOW.out.alloc _) n3 HN3.out w4.heap.size 1 (by rfl) (fun i u hu => ((Bk.new w4 #[.int .i64 z1, .int .i64 z2, .string x3] 95).cell i).trans (by simpa [noC] using hu)) (by unfold maxLen; omega) (by omega) (by simp only [World.size_drew, World.size_alloc]; omega) ?_
    intro g5 cap5 w5 hown5 hgrow5 hat5 hlt5 hkeep5
    have hz5 := hgrow5.size
    simp only [World.size_drew, World.size_alloc] at hz5
    have hbk5 : Bk w5 bF 26 #[.slice A1 n1 c1, .slice A2 n2 c2, v3] := (hgrow5.block _ (by simp only [World.size_drew, World.size_alloc]; omega) (fun e => by have h2 := HI.out _ e.symm; omega)).trans (HBV.out.alloc _)
    have e5' := hbk5.cell 2
    have f5 := hbk5.frozen 2
    have hgl5 := hbk5.lt
    refine hK.out _ _ ?_ (fun hHeld2 => ?_)
    · (try dsimp only); exact S5.push hHeld hgrow5 (fun k hk => (HI.out k hk).1) (by simp only [World.size_drew, World.size_alloc]; omega)
    clear hK K hHeld; have hHeld := hHeld2; clear hHeld2; (try simp only [Act.put, List.setIfInBounds_toArray, List.set_cons_zero, List.set_cons_succ])
    first | (refine take_on (i := 17) (v := ?_) rfl (by kernel_rfl) (by kernel_rfl) (by kernel_rfl) (fun _ _ _ h => h) rfl ?_ (by assumption) ?_; rotate_left; · (intro w' hSw; (try dsimp only at hSw); go_simp; (try with_reducible rfl))) | (refine take_off (i := 17) rfl (by kernel_rfl) (by kernel_rfl) (by kernel_rfl) (fun _ _ _ h => h) rfl (by assumption) ?_)
    (try simp only [Act.put, List.setIfInBounds_toArray, List.set_cons_zero, List.set_cons_succ])
    first | (refine take_on (i := 18) (v := ?_) rfl (by kernel_rfl) (by kernel_rfl) (by kernel_rfl) (fun _ _ _ h => h) rfl ?_ (by assumption) ?_; rotate_left; · (intro w' hSw; (try dsimp only at hSw); go_simp; (try with_reducible rfl))) | (refine take_off (i := 18) rfl (by kernel_rfl) (by kernel_rfl) (by kernel_rfl) (fun _ _ _ h => h) rfl (by assumption) ?_)
    (try simp only [Act.put, List.setIfInBounds_toArray, List.set_cons_zero, List.set_cons_succ])
    refine wpAnyH_ready (rs := [19]) (by kernel_rfl) (by simp) ?_
    refine AllReadyH.cons rfl (fun K hK => ?_) AllReadyH.nil
    rw [if_pos (by rfl)]
    go_simp
    refine hK.out _ _ ?_ (fun hHeld2 => ?_)
    · (try dsimp only); exact S5.storeo 2 hHeld _
    clear hK K hHeld; have hHeld := hHeld2; clear hHeld2; (try simp only [Act.put, List.setIfInBounds_toArray, List.set_cons_zero, List.set_cons_succ])
    refine wpAnyH_done (by kernel_rfl) ?_ _
    have hS := hHeld.2.2
    clear hHeld
    go_wp2_with fail
    go_ret
    have hg5 := hgrow5
    rw [← HV.out] at hg5
    have ha5 := hat5
    rw [← HV.out] at ha5
    have hpush := FileMine.pushNo (g := g5) (cap := cap5) (B := 0) (wi := w4) (a := (⟨z1, z2, x3⟩ : No)) (HMI.out.next hBw4) (by omega) hlo (by go_grown) hg5 ha5 hlt5 (by rw [HN3.out]; exact hown5)
    have hsz : (w5.setCell ⟨bF, 2, none⟩ (.slice (some ⟨g5, 0, none⟩) (n3 + 1) cap5)).heap.size = w5.heap.size := by simp [World.setCell]
    refine ⟨⟨⟨A1, c1, cs⟩, ⟨A2, c2, ss⟩, ⟨some ⟨g5, 0, none⟩, cap5, ns ++ [(⟨z1, z2, x3⟩ : No)]⟩⟩, rfl, by rw [← HP.out]; rfl, ⟨?_, ?_, hlt, ?_, ?_⟩, ?_⟩
    · have h1 := hbk5.put 2 (.slice (some ⟨g5, 0, none⟩) (n3 + 1) cap5)
      show Bk _ bF 26 #[.slice A1 cs.length c1, .slice A2 ss.length c2, .slice (some ⟨g5, 0, none⟩) (ns ++ [(⟨z1, z2, x3⟩ : No)]).length cap5]
      rw [List.length_append, HN1.out, HN2.out, HN3.out]
      simpa using h1
    · have h2 := hpush.set (bF := bF) (o := 2) (u := .slice (some ⟨g5, 0, none⟩) (n3 + 1) cap5) hlt
      exact h2.low (Nat.le_refl _) (by rw [hsz]; exact Nat.le_refl _)
    · rw [hsz]; omega
    · rw [hsz]; exact Nat.le_refl _
    · exact (Apart.of_below (hBw4.mono (show base ≤ w.heap.size by omega))).trans hS
  · rw [if_pos (by rfl)]
    go_simp
    refine hK.out _ _ ?_ (fun hHeld2 => ?_)
    · (try dsimp only); exact S5.mk (by go_grown) (by omega)
    clear hK K hHeld; have hHeld := hHeld2; clear hHeld2; (try simp only [Act.put, List.setIfInBounds_toArray, List.set_cons_zero, List.set_cons_succ])
    refine wpAnyH_ready (rs := [4]) (by kernel_rfl) (by simp) ?_
    refine AllReadyH.cons rfl (fun K hK => ?_) AllReadyH.nil
    rw [if_pos (by rfl)]
    go_simp
    refine hK.out _ _ ?_ (fun hHeld2 => ?_)
    · (try dsimp only); exact hHeld
    clear hK K hHeld; have hHeld := hHeld2; clear hHeld2; (try simp only [Act.put, List.setIfInBounds_toArray, List.set_cons_zero, List.set_cons_succ])
    refine wpAnyH_ready (rs := [16]) (by kernel_rfl) (by simp) ?_
    refine AllReadyH.cons rfl (fun K hK => ?_) AllReadyH.nil
    refine step_push elem_no (by rfl) (.tmp 135) (.tmp 146) 24 (by rfl) Tryz.underlying24 0 v3 ns (⟨z1, z2, x3⟩ : No) (by rfl) (HOW.out.alloc _) n3 HN3.out w4.heap.size 1 (by rfl) (fun i u hu => ((Bk.new w4 #[.int .i64 z1, .int .i64 z2, .string x3] 95).cell i).trans (by simpa [noC] using hu)) (by unfold maxLen; omega) (by omega) (by simp only [World.size_drew, World.size_alloc]; omega) ?_
    intro g5 cap5 w5 hown5 hgrow5 hat5 hlt5 hkeep5
    have hz5 := hgrow5.size
    simp only [World.size_drew, World.size_alloc] at hz5
    have hbk5 : Bk w5 bF 26 #[.slice A1 n1 c1, .slice A2 n2 c2, v3] := (hgrow5.block _ (by simp only [World.size_drew, World.size_alloc]; omega) (fun e => by have h2 := HI.out _ e.symm; omega)).trans (HBV.out.alloc _)
    have e5' := hbk5.cell 2
    have f5 := hbk5.frozen 2
    have hgl5 := hbk5.lt
    refine hK.out _ _ ?_ (fun hHeld2 => ?_)
    · (try dsimp only); exact S5.push hHeld hgrow5 (fun k hk => (HI.out k hk).1) (by simp only [World.size_drew, World.size_alloc]; omega)
    clear hK K hHeld; have hHeld := hHeld2; clear hHeld2; (try simp only [Act.put, List.setIfInBounds_toArray, List.set_cons_zero, List.set_cons_succ])
    first | (refine take_on (i := 17) (v := ?_) rfl (by kernel_rfl) (by kernel_rfl) (by kernel_rfl) (fun _ _ _ h => h) rfl ?_ (by assumption) ?_; rotate_left; · (intro w' hSw; (try dsimp only at hSw); go_simp; (try with_reducible rfl))) | (refine take_off (i := 17) rfl (by kernel_rfl) (by kernel_rfl) (by kernel_rfl) (fun _ _ _ h => h) rfl (by assumption) ?_)
    (try simp only [Act.put, List.setIfInBounds_toArray, List.set_cons_zero, List.set_cons_succ])
    first | (refine take_on (i := 18) (v := ?_) rfl (by kernel_rfl) (by kernel_rfl) (by kernel_rfl) (fun _ _ _ h => h) rfl ?_ (by assumption) ?_; rotate_left; · (intro w' hSw; (try dsimp only at hSw); go_simp; (try with_reducible rfl))) | (refine take_off (i := 18) rfl (by kernel_rfl) (by kernel_rfl) (by kernel_rfl) (fun _ _ _ h => h) rfl (by assumption) ?_)
    (try simp only [Act.put, List.setIfInBounds_toArray, List.set_cons_zero, List.set_cons_succ])
    refine wpAnyH_ready (rs := [19]) (by kernel_rfl) (by simp) ?_
    refine AllReadyH.cons rfl (fun K hK => ?_) AllReadyH.nil
    rw [if_pos (by rfl)]
    go_simp
    refine hK.out _ _ ?_ (fun hHeld2 => ?_)
    · (try dsimp only); exact S5.storeo 2 hHeld _
    clear hK K hHeld; have hHeld := hHeld2; clear hHeld2; (try simp only [Act.put, List.setIfInBounds_toArray, List.set_cons_zero, List.set_cons_succ])
    refine wpAnyH_done (by kernel_rfl) ?_ _
    have hS := hHeld.2.2
    clear hHeld
    go_wp2_with fail
    go_ret
    have hg5 := hgrow5
    rw [← HV.out] at hg5
    have ha5 := hat5
    rw [← HV.out] at ha5
    have hpush := FileMine.pushNo (g := g5) (cap := cap5) (B := 0) (wi := w4) (a := (⟨z1, z2, x3⟩ : No)) (HMI.out.next hBw4) (by omega) hlo (by go_grown) hg5 ha5 hlt5 (by rw [HN3.out]; exact hown5)
    have hsz : (w5.setCell ⟨bF, 2, none⟩ (.slice (some ⟨g5, 0, none⟩) (n3 + 1) cap5)).heap.size = w5.heap.size := by simp [World.setCell]
    refine ⟨⟨⟨A1, c1, cs⟩, ⟨A2, c2, ss⟩, ⟨some ⟨g5, 0, none⟩, cap5, ns ++ [(⟨z1, z2, x3⟩ : No)]⟩⟩, rfl, by rw [← HP.out]; rfl, ⟨?_, ?_, hlt, ?_, ?_⟩, ?_⟩
    · have h1 := hbk5.put 2 (.slice (some ⟨g5, 0, none⟩) (n3 + 1) cap5)
      show Bk _ bF 26 #[.slice A1 cs.length c1, .slice A2 ss.length c2, .slice (some ⟨g5, 0, none⟩) (ns ++ [(⟨z1, z2, x3⟩ : No)]).length cap5]
      rw [List.length_append, HN1.out, HN2.out, HN3.out]
      simpa using h1
    · have h2 := hpush.set (bF := bF) (o := 2) (u := .slice (some ⟨g5, 0, none⟩) (n3 + 1) cap5) hlt
      exact h2.low (Nat.le_refl _) (by rw [hsz]; exact Nat.le_refl _)
    · rw [hsz]; omega
    · rw [hsz]; exact Nat.le_refl _
    · exact (Apart.of_below (hBw4.mono (show base ≤ w.heap.size by omega))).trans hS
end Go.Proofs.YtmdmjnhebbhjbaaGreatDoor
namespace Go.Proofs.YtmdmjnhebbhjbaaGreatDoor
set_option linter.unusedSimpArgs false
set_option linter.unusedVariables false
set_option maxRecDepth 20000
open Go.RowKit
open Go.ChangeShapes Go.WideShapes Go.Deep Go.Joins

theorem allM_if {α β : Type} (P : α → Bool) (g : α → β) : ∀ l : List α, allM (fun a => if P a = true then some (g a) else none) l = if l.all P = true then some (l.map g) else none
  | [] => rfl
  | a :: l => by
    rw [allM, allM_if P g l]
    cases h1 : P a
    · simp [h1]
    · cases h2 : l.all P
      · simp [h1, h2]
      · simp [h1, h2]
theorem row_is {y : ByteArray} {n : Nat} (hn : (splitBs 44 y).length = n) : sRow y.data.toList = if allTo (splitBs 44 y) n = true then some (numsTo (splitBs 44 y) n) else none := by
  have e1 : (splitBs 44 y).take n = splitBs 44 y := List.take_of_length_le (by rw [hn]; exact Nat.le_refl _)
  unfold sRow allTo numsTo
  rw [e1, allM_if (fun a => (decR a).2) (fun a => (decR a).1)]
  have e2 : (splitBs 44 y).all (fun x => (decR x.data.toList).2) = (splitL 44 y.data.toList).all (fun a => (decR a).2) := by
    rw [← splitBs_map, List.all_map]
    rfl
  have e3 : (splitBs 44 y).map (fun x => (decR x.data.toList).1) = (splitL 44 y.data.toList).map (fun a => (decR a).1) := by
    rw [← splitBs_map, List.map_map]
    rfl
  rw [e2, e3]
theorem rows_push2 {R : Sl (Sl Int)} {rows : List (List Int)} {r : List Int} (h : rowsK.pl R = rows) {y : Sl Int} (hy : y.l = r) {A : Option Addr} {c : Nat} : rowsK.pl ⟨A, c, R.l ++ [y]⟩ = rows ++ [r] := by
  subst h; subst hy
  show (R.l ++ [_]).map rowK.pl = R.l.map rowK.pl ++ [_]
  rw [List.map_append, List.map_singleton, rowK_pl]
set_option maxHeartbeats 4000000 in
theorem sfl_st (bF base hi : Nat) (A1 A2 A3 : Option Addr) (c1 c2 c3 : Nat) (cs : List Ch) (ss : List (Sl (Sl Int))) (ns : List No) (p : FlP) (gw : Nat) (w : World) (hfa : FA w bF base hi ⟨⟨A1, c1, cs⟩, ⟨A2, c2, ss⟩, ⟨A3, c3, ns⟩⟩) (hp : filePl ⟨⟨A1, c1, cs⟩, ⟨A2, c2, ss⟩, ⟨A3, c3, ns⟩⟩ = p) (hgw : hi ≤ gw) (hgl : gw < w.heap.size) (hcnt : cs.length ≤ 1048576 ∧ ss.length ≤ 1048576 ∧ ns.length ≤ 1048576) (nt c : Nat) (x0 : ByteArray) (T : List ByteArray) (hnt : T.length = nt) (hntb : nt ≤ 1048576) (hrd : RdT w (some ⟨gw, 0, none⟩) (nt + 1) (x0 :: T)) (hts : ∀ x ∈ T, x.size ≤ 1048575) (e1 : (x0.toList == [99, 104, 97, 110, 110, 101, 108]) = false) (e2 : (x0.toList == [115, 116, 114, 111, 107, 101]) = true) (hns : ns = []) (ro : Option (List (List Int))) (hro : Hid (allM sRow (T.map fun x => x.data.toList) = ro)) :
    Calls Tryz.prog 53 #[.pointer (some ⟨bF, 0, none⟩), .slice (some ⟨gw, 0, none⟩) (nt + 1) c] w fun e w' => (ro = none ∧ e = .returned (.bool false) ∧ Apart bF base w w') ∨ ∃ rs, ro = some rs ∧ FaPost bF base (addSt p rs) w e w' := by
  obtain ⟨hbk, hmi, hlt, hlo, htop⟩ := hfa
  obtain ⟨k1, k2, k3⟩ := hcnt
  obtain ⟨n1, hn1⟩ : ∃ n, cs.length = n := ⟨_, rfl⟩
  obtain ⟨n2, hn2⟩ : ∃ n, ss.length = n := ⟨_, rfl⟩
  obtain ⟨n3, hn3⟩ : ∃ n, ns.length = n := ⟨_, rfl⟩
  have hbk' : Bk w bF 26 #[.slice A1 n1 c1, .slice A2 n2 c2, .slice A3 n3 c3] := by rw [← hn1, ← hn2, ← hn3]; exact hbk
  have HBK := Lib.hid hbk'
  have HMI := Lib.hid hmi
  have HP := Lib.hid hp
  have HN1 := Lib.hid hn1
  have HN2 := Lib.hid hn2
  have HN3 := Lib.hid hn3
  rw [hn1] at k1
  rw [hn2] at k2
  rw [hn3] at k3
  have hbl : bF < w.heap.size := hbk'.lt
  have hbg : ¬ gw = bF := by omega
  clear hbk hbk' hmi hp hn1 hn2 hn3
  obtain rfl : n3 = 0 := by rw [← HN3.out, hns]; rfl
  have HNT := Lib.hid hnt
  have HTS := Lib.hid hts
  have HRD := Lib.hid hrd
  have y0 : w.cell? ⟨gw, 0, none⟩ = some (.string x0) := hrd.get (by simp [hnt]) (j := 0) (by simp)
  have b2 := HBK.out.cell 2
  have hI0 : Hid (Bk (w.alloc (.cells #[.slice none 0 0] 93)) w.heap.size 93 #[.slice none 0 0]) := Bk.new w _ _
  have hq1 : (0 : Int) ≤ (nt : Int) := by omega
  clear hnt hts hrd
  go_enter Tryz.func53, Tryz.ntmps53
  go_wp2_with fail
  clear y0 b2
  go_loopw [8] (fun i wr => ∃ (k j : Nat) (R : Sl (Sl Int)) (rows : List (List Int)), 1 ≤ k ∧ k ≤ nt + 1 ∧ i = .int .i64 (k : Int) ∧ Hid (j + 1 = k) ∧ Bk wr w.heap.size 93 #[.slice R.A j R.c] ∧ Hid (R.l.length = j) ∧ Hid (rowsK.pl R = rows) ∧ Hid (allM sRow ((T.map fun x => x.data.toList).take j) = some rows) ∧ Hid (Mine rowsK wr (w.heap.size + 1) wr.heap.size R) ∧ Below w.heap.size (w.alloc (.cells #[.slice none 0 0] 93)) wr) (fun i _ => nt + 1 - (intOf i).toNat)
  case atStart => exact ⟨1, 0, ⟨none, 0, []⟩, [], Nat.le_refl _, by omega, rfl, rfl, hI0.out, rfl, rfl, rfl, Mine.nil rowK 93 _ _ _, Below.refl _ _⟩
  case round =>
    obtain ⟨k, j, R, rows, hk1, hkn, rfl, hkj, hbk2, HRL, HRP, HRA, HMR, hB2⟩ := hrel
    have hBs := hB2.size
    simp only [World.size_alloc] at hBs
    have hBwr : Below w.heap.size w wr := ((Below.refl _ _).alloc (Nat.le_refl _) _).trans hB2
    obtain ⟨e0, f0⟩ := bk1 hbk2
    have hgl2 := hbk2.lt
    have hkj' := hkj.out
    by_cases hjlt : k < nt + 1
    · have jT : j < T.length := by rw [HNT.out]; omega
      have hjM : j < (T.map fun x => x.data.toList).length := by rw [List.length_map]; exact jT
      obtain ⟨y, hy⟩ : ∃ y, T[j] = y := ⟨_, rfl⟩
      have hys := HTS.out _ (List.getElem_mem jT)
      rw [hy] at hys
      have hyM : Hid ((T.map fun x => x.data.toList)[j] = y.data.toList) := by rw [Hid, List.getElem_map, hy]
      have a0 := HRD.out.get (by simp [HNT.out]) (j := j + 1) (by simp; omega)
      rw [List.getElem_cons_succ, hy] at a0
      have a1 : wr.cell? ⟨gw, k, none⟩ = some (.string y) := by rw [← hkj.out]; exact (hBwr.cell (p := ⟨gw, j + 1, none⟩) hgl).trans a0
      have hglr : gw < wr.heap.size := Nat.lt_of_lt_of_le hgl hBwr.size
      obtain ⟨ny, hny⟩ : ∃ n, (splitBs 44 y).length = n := ⟨_, rfl⟩
      have HNY := Lib.hid hny
      have hnyb : ny ≤ 1048576 := by have := splitBs_len 44 y; omega
      have hrow := row_is hny
      obtain ⟨Ry, hRy⟩ : ∃ r, numsTo (splitBs 44 y) ny = r := ⟨_, rfl⟩
      obtain ⟨ok, hok⟩ : ∃ b, allTo (splitBs 44 y) ny = b := ⟨_, rfl⟩
      have hRyl : Ry.length = ny := by rw [← hRy]; exact numsTo_len (by rw [hny]; exact Nat.le_refl _)
      rw [hRy, hok] at hrow
      have HROW := Lib.hid hrow
      have HRYL := Lib.hid hRyl
      have HRy := Lib.hid hRy
      have HOK := Lib.hid hok
      obtain ⟨vr, hvr⟩ : ∃ v, Value.slice R.A j R.c = v := ⟨_, rfl⟩
      have HRVV : Hid (R.val = vr) := by rw [Hid, ← hvr, ← HRL.out]; rfl
      have HIR : Hid (∀ b, vr.ownBlock = some b → w.heap.size + 1 ≤ b ∧ b < wr.heap.size) := fun b hb => HMR.out.rng b (Kd.fp_top (s := R) (by rw [HRVV.out]; exact hb))
      rw [hvr] at hbk2 e0
      have hk0 : (0 : Int) ≤ (k : Int) := by omega
      have hkl : (k : Int) < (nt : Int) + 1 := by omega
      have hjb : j ≤ 1048576 := by omega
      clear a0 hy hny hvr hrow hRyl hRy hok hkj'
      go_wp2_with fail
      refine (l01Split_n y 44 ny _ HNY.out (by omega)).mono ?_
      rintro e w3 ⟨A3', c3', rfl, hown3, hb3⟩
      have hrd3 := Lib.hid (hown3.rdS HNY.out)
      have hB3 : Below wr.heap.size wr w3 := hb3
      have hz3 := hB3.size
      clear hown3 hb3 a1
      go_wp2_with fail
      have hnc := l03Numbers_any A3' ny c3' (splitBs 44 y) w3 hrd3.out HNY.out hnyb (fun x hx => by have := split_size hx; omega)
      rw [HRy.out, HOK.out] at hnc
      refine hnc.mono ?_
      rintro e w4 ⟨A4, c4, rfl, hown4, hb4⟩
      have hB4 : Below wr.heap.size wr w4 := Below.next hB3 hb4
      have hz4 := hb4.size
      have HM4 : Hid (Mine rowsK w4 (w.heap.size + 1) wr.heap.size R) := HMR.out.next rowsK_ok hB4
      have HO4 : Hid (Own hdC 58 1 w4 0 vr R.l) := by rw [← HRVV.out]; exact HM4.out.own.1
      have hbk4 : Bk w4 w.heap.size 93 #[vr] := hbk2.next hB4
      obtain ⟨e4, f4⟩ := bk1 hbk4
      have hgl4 := hbk4.lt
      obtain ⟨y9, hy9⟩ : ∃ t : Sl Int, t = ⟨A4, c4, Ry⟩ := ⟨_, rfl⟩
      have HYV : Hid (y9.val = .slice A4 ny c4) := by rw [Hid, hy9, ← HRYL.out]; rfl
      have HYL : Hid (y9.l = Ry) := by rw [Hid, hy9]
      have HMY : Hid (Mine rowK w4 wr.heap.size w4.heap.size y9) := by rw [hy9]; exact (Mine.of_own hown4 HRYL.out).low hz3 (Nat.le_refl _)
      have hBw4 : Below w.heap.size w w4 := hBwr.trans (hB4.mono hBwr.size)
      clear hy9 hown4 hb4 hnc e0 f0
      cases ok
      · have hno : Hid (ro = none) := by rw [Hid, ← hro.out]; exact allM_none hjM (by rw [hyM.out, HROW.out]; rfl)
        go_wp2_with fail
        go_ret
        exact .inl ⟨hno.out, rfl, Apart.of_below (hBw4.mono (show base ≤ w.heap.size by omega))⟩
      · have hnx : Hid (allM sRow ((T.map fun x => x.data.toList).take (j + 1)) = some (rows ++ [Ry])) := allM_take HRA.out hjM (by rw [hyM.out, HROW.out]; rfl)
        go_wp2_with ((at_builtin; refine list_push elem_row (by rfl) (.tmp 100) (.tmp 102) 91 (by rfl) Tryz.underlying91 0 vr R.l y9 (by rfl) (HO4.out.alloc _) j HRL.out w4.heap.size 1 (by rfl) (fun i u hu => ((Bk.new w4 #[.slice A4 ny c4] 58).cell i).trans (by have h1 := HYV.out; unfold hdC at hu; rw [h1] at hu; simpa using hu)) (by unfold maxLen; omega) (by omega) (by simp only [World.size_alloc]; omega) ?_; intro g5 cap5 w5 hown5 hgrow5 hat5 hlt5 hkeep5; have hbk5 : Bk w5 w.heap.size 93 #[vr] := (hgrow5.block _ (by simp only [World.size_alloc]; omega) (fun e => by have h2 := HIR.out _ e.symm; omega)).trans (hbk4.alloc _); obtain ⟨e5', f5⟩ := bk1 hbk5; have hz5 := hgrow5.size; simp only [World.size_alloc] at hz5; have hgl5 := hbk5.lt))
        go_roundw
        case rel =>
          have hg5 := hgrow5
          rw [← HRVV.out] at hg5
          have ha5 := hat5
          rw [← HRVV.out] at ha5
          have hpush := Mine.push rowK_ok (T := 93) (g := g5) (cap := cap5) (B := 0) (wi := w4) HM4.out HMY.out (by omega) (by omega) (by go_grown) hg5 ha5 hlt5 (by rw [HRL.out]; exact hown5)
          have hfin := hpush.chg rowsK_ok (ChgF.setCell w5 w.heap.size 0 (.slice (some ⟨g5, 0, none⟩) (j + 1) cap5)) (fun b hb hm => by have := hpush.rng b hb; simp at hm; omega)
          refine ⟨k + 1, j + 1, ⟨some ⟨g5, 0, none⟩, cap5, R.l ++ [y9]⟩, rows ++ [Ry], by omega, by omega, by go_num, by rw [Hid, hkj.out], bk1_put hbk5, by simp [Hid, HRL.out], rows_push2 HRP.out HYL.out, hnx, ?_, ?_⟩
          · have hsz : (w5.setCell ⟨w.heap.size, 0, none⟩ (.slice (some ⟨g5, 0, none⟩) (j + 1) cap5)).heap.size = w5.heap.size := by simp [World.setCell]
            rw [Hid, hsz]; exact hfin
          · have hG := hB2.trans (hB4.mono (show w.heap.size ≤ wr.heap.size by omega))
            have hG2 := (hG.alloc (show w.heap.size ≤ w4.heap.size by omega) (.cells #[.slice A4 ny c4] 58)).grown hgrow5 (by simp only [World.size_alloc]; omega) (fun b hb => by have h2 := HIR.out b hb; omega)
            exact hG2.setCell (Nat.le_refl _) _
        case measure => (simp [intOf]; try omega)
    · have hjn : j = nt := by omega
      subst hjn
      have HRALL : Hid (allM sRow (T.map fun x => x.data.toList) = some rows) := by
        have h1 := HRA.out
        rw [List.take_of_length_le (by rw [List.length_map, HNT.out]; exact Nat.le_refl _)] at h1
        exact h1
      have HRV : Hid (R.val = .slice R.A j R.c) := by rw [Hid, ← HRL.out]; rfl
      have hkl : ¬ (k : Int) < (j : Int) + 1 := by omega
      have hbkwr := HBK.out.next hBwr
      have hbl4 := hbkwr.lt
      have HMI5 : Hid (FileMine wr base hi ⟨⟨A1, c1, cs⟩, ⟨A2, c2, ss⟩, ⟨A3, c3, ns⟩⟩) := HMI.out.next hBwr
      have HMR2 : Hid (Mine rowsK wr hi wr.heap.size R) := HMR.out.low (by omega) (Nat.le_refl _)
      clear HMR
      have HMR := HMR2
      have hn9 : ¬ w.heap.size = bF := by omega
      obtain ⟨v2, hv2⟩ : ∃ v, Value.slice A2 n2 c2 = v := ⟨_, rfl⟩
      have hvv : Value.slice A2 ss.length c2 = v2 := by rw [← hv2, HN2.out]
      have HI : Hid (∀ k, v2.ownBlock = some k → base ≤ k ∧ k < hi) := fun k hk => HMI.out.st.rng k (Kd.fp_top (s := ⟨A2, c2, ss⟩) (by rw [← hvv] at hk; exact hk))
      have HOW : Hid (Own hdC 93 1 wr 0 v2 ss) := by rw [← hvv]; exact (HMI.out.next hBwr).st.own.1
      have HV := Lib.hid hvv
      have hbkv : Bk wr bF 26 #[.slice A1 n1 c1, v2, .slice A3 0 c3] := by rw [← hv2]; exact hbkwr
      have HBV := Lib.hid hbkv
      have cb : wr.cell? ⟨bF, 1, none⟩ = some v2 := hbkv.cell 1
      have fb : wr.frozen? ⟨bF, 1, none⟩ = false := hbkv.frozen 1
      have hu4 : ¬ v2.ownBlock = some gw := fun e => by have h2 := HI.out _ e; omega
      clear hvv hbkv hv2
      have hu9 : ¬ v2.ownBlock = some w.heap.size := fun e => by have h2 := HI.out _ e; omega
      go_wp2_with fail
      refine wp_region_held_drew (S := (fun w' => (∀ kb ko, kb < wr.heap.size → ¬ v2.ownBlock = some kb → ¬ kb = bF → w'.cell? ⟨kb, ko, none⟩ = wr.cell? ⟨kb, ko, none⟩) ∧ wr.heap.size ≤ w'.heap.size ∧ Apart bF base wr w')) (by kernel_rfl) ?_ (fun hHeld => ?_)
      · (try dsimp only); exact S5.mk ((Below.refl _ _).drew) (by omega)
      first | (refine take_on (i := 0) (v := ?_) rfl (by kernel_rfl) (by kernel_rfl) (by kernel_rfl) (fun _ _ _ h => h) rfl ?_ (by assumption) ?_; rotate_left; · (intro w' hSw; (try dsimp only at hSw); go_simp; (try with_reducible rfl))) | (refine take_off (i := 0) rfl (by kernel_rfl) (by kernel_rfl) (by kernel_rfl) (fun _ _ _ h => h) rfl (by assumption) ?_)
      (try simp only [Act.put, List.setIfInBounds_toArray, List.set_cons_zero, List.set_cons_succ])
      first | (refine take_on (i := 1) (v := ?_) rfl (by kernel_rfl) (by kernel_rfl) (by kernel_rfl) (fun _ _ _ h => h) rfl ?_ (by assumption) ?_; rotate_left; · (intro w' hSw; (try dsimp only at hSw); go_simp; (try with_reducible rfl))) | (refine take_off (i := 1) rfl (by kernel_rfl) (by kernel_rfl) (by kernel_rfl) (fun _ _ _ h => h) rfl (by assumption) ?_)
      (try simp only [Act.put, List.setIfInBounds_toArray, List.set_cons_zero, List.set_cons_succ])
      first | (refine take_on (i := 2) (v := ?_) rfl (by kernel_rfl) (by kernel_rfl) (by kernel_rfl) (fun _ _ _ h => h) rfl ?_ (by assumption) ?_; rotate_left; · (intro w' hSw; (try dsimp only at hSw); go_simp; (try with_reducible rfl))) | (refine take_off (i := 2) rfl (by kernel_rfl) (by kernel_rfl) (by kernel_rfl) (fun _ _ _ h => h) rfl (by assumption) ?_)
      (try simp only [Act.put, List.setIfInBounds_toArray, List.set_cons_zero, List.set_cons_succ])
      first | (refine take_on (i := 3) (v := ?_) rfl (by kernel_rfl) (by kernel_rfl) (by kernel_rfl) (fun _ _ _ h => h) rfl ?_ (by assumption) ?_; rotate_left; · (intro w' hSw; (try dsimp only at hSw); go_simp; (try with_reducible rfl))) | (refine take_off (i := 3) rfl (by kernel_rfl) (by kernel_rfl) (by kernel_rfl) (fun _ _ _ h => h) rfl (by assumption) ?_)
      (try simp only [Act.put, List.setIfInBounds_toArray, List.set_cons_zero, List.set_cons_succ])
      first | (refine take_on (i := 5) (v := ?_) rfl (by kernel_rfl) (by kernel_rfl) (by kernel_rfl) (fun _ _ _ h => h) rfl ?_ (by assumption) ?_; rotate_left; · (intro w' hSw; (try dsimp only at hSw); go_simp; (try with_reducible rfl))) | (refine take_off (i := 5) rfl (by kernel_rfl) (by kernel_rfl) (by kernel_rfl) (fun _ _ _ h => h) rfl (by assumption) ?_)
      (try simp only [Act.put, List.setIfInBounds_toArray, List.set_cons_zero, List.set_cons_succ])
      refine wpAnyH_ready (rs := [4, 6]) (by kernel_rfl) (by simp) ?_
      refine AllReadyH.cons rfl (fun K hK => ?_) (AllReadyH.cons rfl (fun K hK => ?_) (AllReadyH.nil))
      · rw [if_pos (by rfl)]
        go_simp
        refine hK.out _ _ ?_ (fun hHeld2 => ?_)
        · (try dsimp only); exact hHeld
        clear hK K hHeld; have hHeld := hHeld2; clear hHeld2; (try simp only [Act.put, List.setIfInBounds_toArray, List.set_cons_zero, List.set_cons_succ])
        refine wpAnyH_ready (rs := [6]) (by kernel_rfl) (by simp) ?_
        refine AllReadyH.cons rfl (fun K hK => ?_) AllReadyH.nil
        rw [if_pos (by rfl)]
        go_simp
        refine hK.out _ _ ?_ (fun hHeld2 => ?_)
        · (try dsimp only); exact S5.mk (by go_grown) (by omega)
        clear hK K hHeld; have hHeld := hHeld2; clear hHeld2; (try simp only [Act.put, List.setIfInBounds_toArray, List.set_cons_zero, List.set_cons_succ])
        refine wpAnyH_ready (rs := [7]) (by kernel_rfl) (by simp) ?_
        refine AllReadyH.cons rfl (fun K hK => ?_) AllReadyH.nil
        refine step_push elem_rows (by rfl) (.tmp 109) (.tmp 111) 23 (by rfl) Tryz.underlying23 0 v2 ss R (by rfl) (HOW.out.alloc _) n2 HN2.out wr.heap.size 1 (by rfl) (fun i u hu => ((Bk.new wr #[.slice R.A j R.c] 93).cell i).trans (by have h1 := HRV.out; unfold hdC at hu; rw [h1] at hu; simpa using hu)) (by unfold maxLen; omega) (by omega) (by simp only [World.size_drew, World.size_alloc]; omega) ?_
        intro g5 cap5 w5 hown5 hgrow5 hat5 hlt5 hkeep5
        have hz5 := hgrow5.size
        simp only [World.size_drew, World.size_alloc] at hz5
        have hbk5 : Bk w5 bF 26 #[.slice A1 n1 c1, v2, .slice A3 0 c3] := (hgrow5.block _ (by simp only [World.size_drew, World.size_alloc]; omega) (fun e => by have h2 := HI.out _ e.symm; omega)).trans (HBV.out.alloc _)
        have e5' := hbk5.cell 1
        have f5 := hbk5.frozen 1
        have hgl5 := hbk5.lt
        refine hK.out _ _ ?_ (fun hHeld2 => ?_)
        · (try dsimp only); exact S5.push hHeld hgrow5 (fun k hk => (HI.out k hk).1) (by simp only [World.size_drew, World.size_alloc]; omega)
        clear hK K hHeld; have hHeld := hHeld2; clear hHeld2; (try simp only [Act.put, List.setIfInBounds_toArray, List.set_cons_zero, List.set_cons_succ])
        first | (refine take_on (i := 8) (v := ?_) rfl (by kernel_rfl) (by kernel_rfl) (by kernel_rfl) (fun _ _ _ h => h) rfl ?_ (by assumption) ?_; rotate_left; · (intro w' hSw; (try dsimp only at hSw); go_simp; (try with_reducible rfl))) | (refine take_off (i := 8) rfl (by kernel_rfl) (by kernel_rfl) (by kernel_rfl) (fun _ _ _ h => h) rfl (by assumption) ?_)
        (try simp only [Act.put, List.setIfInBounds_toArray, List.set_cons_zero, List.set_cons_succ])
        first | (refine take_on (i := 9) (v := ?_) rfl (by kernel_rfl) (by kernel_rfl) (by kernel_rfl) (fun _ _ _ h => h) rfl ?_ (by assumption) ?_; rotate_left; · (intro w' hSw; (try dsimp only at hSw); go_simp; (try with_reducible rfl))) | (refine take_off (i := 9) rfl (by kernel_rfl) (by kernel_rfl) (by kernel_rfl) (fun _ _ _ h => h) rfl (by assumption) ?_)
        (try simp only [Act.put, List.setIfInBounds_toArray, List.set_cons_zero, List.set_cons_succ])
        refine wpAnyH_ready (rs := [10]) (by kernel_rfl) (by simp) ?_
        refine AllReadyH.cons rfl (fun K hK => ?_) AllReadyH.nil
        rw [if_pos (by rfl)]
        go_simp
        refine hK.out _ _ ?_ (fun hHeld2 => ?_)
        · (try dsimp only); exact S5.storeo 1 hHeld _
        clear hK K hHeld; have hHeld := hHeld2; clear hHeld2; (try simp only [Act.put, List.setIfInBounds_toArray, List.set_cons_zero, List.set_cons_succ])
        refine wpAnyH_done (by kernel_rfl) ?_ _
        have hS := hHeld.2.2
        clear hHeld
        go_wp2_with fail
        go_ret
        have hg5 := hgrow5
        rw [← HV.out] at hg5
        have ha5 := hat5
        rw [← HV.out] at ha5
        have hpush := FileMine.pushSt (g := g5) (cap := cap5) (B := 0) (wi := wr) (a := R) HMI5.out HMR.out (by omega) hlo (by go_grown) hg5 ha5 hlt5 (by rw [HN2.out]; exact hown5)
        have hsz : (w5.setCell ⟨bF, 1, none⟩ (.slice (some ⟨g5, 0, none⟩) (n2 + 1) cap5)).heap.size = w5.heap.size := by simp [World.setCell]
        refine .inr ⟨_, hro.out.symm.trans HRALL.out, ⟨⟨A1, c1, cs⟩, ⟨some ⟨g5, 0, none⟩, cap5, ss ++ [R]⟩, ⟨A3, c3, ns⟩⟩, rfl, file_pushSt HP.out HRP.out, ⟨?_, ?_, hlt, ?_, ?_⟩, ?_⟩
        · have h1 := hbk5.put 1 (.slice (some ⟨g5, 0, none⟩) (n2 + 1) cap5)
          show Bk _ bF 26 #[.slice A1 cs.length c1, .slice (some ⟨g5, 0, none⟩) (ss ++ [R]).length cap5, .slice A3 ns.length c3]
          rw [List.length_append, HN1.out, HN2.out, HN3.out]
          simpa using h1
        · have h2 := hpush.set (bF := bF) (o := 1) (u := .slice (some ⟨g5, 0, none⟩) (n2 + 1) cap5) hlt
          exact h2.low (Nat.le_refl _) (by rw [hsz]; exact Nat.le_refl _)
        · rw [hsz]; omega
        · rw [hsz]; exact Nat.le_refl _
        · exact (Apart.of_below (hBwr.mono (show base ≤ w.heap.size by omega))).trans hS
      · rw [if_pos (by rfl)]
        go_simp
        refine hK.out _ _ ?_ (fun hHeld2 => ?_)
        · (try dsimp only); exact S5.mk (by go_grown) (by omega)
        clear hK K hHeld; have hHeld := hHeld2; clear hHeld2; (try simp only [Act.put, List.setIfInBounds_toArray, List.set_cons_zero, List.set_cons_succ])
        refine wpAnyH_ready (rs := [4]) (by kernel_rfl) (by simp) ?_
        refine AllReadyH.cons rfl (fun K hK => ?_) AllReadyH.nil
        rw [if_pos (by rfl)]
        go_simp
        refine hK.out _ _ ?_ (fun hHeld2 => ?_)
        · (try dsimp only); exact hHeld
        clear hK K hHeld; have hHeld := hHeld2; clear hHeld2; (try simp only [Act.put, List.setIfInBounds_toArray, List.set_cons_zero, List.set_cons_succ])
        refine wpAnyH_ready (rs := [7]) (by kernel_rfl) (by simp) ?_
        refine AllReadyH.cons rfl (fun K hK => ?_) AllReadyH.nil
        refine step_push elem_rows (by rfl) (.tmp 109) (.tmp 111) 23 (by rfl) Tryz.underlying23 0 v2 ss R (by rfl) (HOW.out.alloc _) n2 HN2.out wr.heap.size 1 (by rfl) (fun i u hu => ((Bk.new wr #[.slice R.A j R.c] 93).cell i).trans (by have h1 := HRV.out; unfold hdC at hu; rw [h1] at hu; simpa using hu)) (by unfold maxLen; omega) (by omega) (by simp only [World.size_drew, World.size_alloc]; omega) ?_
        intro g5 cap5 w5 hown5 hgrow5 hat5 hlt5 hkeep5
        have hz5 := hgrow5.size
        simp only [World.size_drew, World.size_alloc] at hz5
        have hbk5 : Bk w5 bF 26 #[.slice A1 n1 c1, v2, .slice A3 0 c3] := (hgrow5.block _ (by simp only [World.size_drew, World.size_alloc]; omega) (fun e => by have h2 := HI.out _ e.symm; omega)).trans (HBV.out.alloc _)
        have e5' := hbk5.cell 1
        have f5 := hbk5.frozen 1
        have hgl5 := hbk5.lt
        refine hK.out _ _ ?_ (fun hHeld2 => ?_)
        · (try dsimp only); exact S5.push hHeld hgrow5 (fun k hk => (HI.out k hk).1) (by simp only [World.size_drew, World.size_alloc]; omega)
        clear hK K hHeld; have hHeld := hHeld2; clear hHeld2; (try simp only [Act.put, List.setIfInBounds_toArray, List.set_cons_zero, List.set_cons_succ])
        first | (refine take_on (i := 8) (v := ?_) rfl (by kernel_rfl) (by kernel_rfl) (by kernel_rfl) (fun _ _ _ h => h) rfl ?_ (by assumption) ?_; rotate_left; · (intro w' hSw; (try dsimp only at hSw); go_simp; (try with_reducible rfl))) | (refine take_off (i := 8) rfl (by kernel_rfl) (by kernel_rfl) (by kernel_rfl) (fun _ _ _ h => h) rfl (by assumption) ?_)
        (try simp only [Act.put, List.setIfInBounds_toArray, List.set_cons_zero, List.set_cons_succ])
        first | (refine take_on (i := 9) (v := ?_) rfl (by kernel_rfl) (by kernel_rfl) (by kernel_rfl) (fun _ _ _ h => h) rfl ?_ (by assumption) ?_; rotate_left; · (intro w' hSw; (try dsimp only at hSw); go_simp; (try with_reducible rfl))) | (refine take_off (i := 9) rfl (by kernel_rfl) (by kernel_rfl) (by kernel_rfl) (fun _ _ _ h => h) rfl (by assumption) ?_)
        (try simp only [Act.put, List.setIfInBounds_toArray, List.set_cons_zero, List.set_cons_succ])
        refine wpAnyH_ready (rs := [10]) (by kernel_rfl) (by simp) ?_
        refine AllReadyH.cons rfl (fun K hK => ?_) AllReadyH.nil
        rw [if_pos (by rfl)]
        go_simp
        refine hK.out _ _ ?_ (fun hHeld2 => ?_)
        · (try dsimp only); exact S5.storeo 1 hHeld _
        clear hK K hHeld; have hHeld := hHeld2; clear hHeld2; (try simp only [Act.put, List.setIfInBounds_toArray, List.set_cons_zero, List.set_cons_succ])
        refine wpAnyH_done (by kernel_rfl) ?_ _
        have hS := hHeld.2.2
        clear hHeld
        go_wp2_with fail
        go_ret
        have hg5 := hgrow5
        rw [← HV.out] at hg5
        have ha5 := hat5
        rw [← HV.out] at ha5
        have hpush := FileMine.pushSt (g := g5) (cap := cap5) (B := 0) (wi := wr) (a := R) HMI5.out HMR.out (by omega) hlo (by go_grown) hg5 ha5 hlt5 (by rw [HN2.out]; exact hown5)
        have hsz : (w5.setCell ⟨bF, 1, none⟩ (.slice (some ⟨g5, 0, none⟩) (n2 + 1) cap5)).heap.size = w5.heap.size := by simp [World.setCell]
        refine .inr ⟨_, hro.out.symm.trans HRALL.out, ⟨⟨A1, c1, cs⟩, ⟨some ⟨g5, 0, none⟩, cap5, ss ++ [R]⟩, ⟨A3, c3, ns⟩⟩, rfl, file_pushSt HP.out HRP.out, ⟨?_, ?_, hlt, ?_, ?_⟩, ?_⟩
        · have h1 := hbk5.put 1 (.slice (some ⟨g5, 0, none⟩) (n2 + 1) cap5)
          show Bk _ bF 26 #[.slice A1 cs.length c1, .slice (some ⟨g5, 0, none⟩) (ss ++ [R]).length cap5, .slice A3 ns.length c3]
          rw [List.length_append, HN1.out, HN2.out, HN3.out]
          simpa using h1
        · have h2 := hpush.set (bF := bF) (o := 1) (u := .slice (some ⟨g5, 0, none⟩) (n2 + 1) cap5) hlt
          exact h2.low (Nat.le_refl _) (by rw [hsz]; exact Nat.le_refl _)
        · rw [hsz]; omega
        · rw [hsz]; exact Nat.le_refl _
        · exact (Apart.of_below (hBwr.mono (show base ≤ w.heap.size by omega))).trans hS
end Go.Proofs.YtmdmjnhebbhjbaaGreatDoor
namespace Go.Proofs.YtmdmjnhebbhjbaaGreatDoor
set_option linter.unusedSimpArgs false
set_option linter.unusedVariables false
set_option maxRecDepth 20000
open Go.RowKit
open Go.ChangeShapes Go.WideShapes Go.Deep Go.Joins

set_option maxHeartbeats 2000000 in
theorem sfl_none0 (bF base hi : Nat) (A1 A2 A3 : Option Addr) (c1 c2 c3 : Nat) (cs : List Ch) (ss : List (Sl (Sl Int))) (ns : List No) (p : FlP) (gw : Nat) (w : World) (hfa : FA w bF base hi ⟨⟨A1, c1, cs⟩, ⟨A2, c2, ss⟩, ⟨A3, c3, ns⟩⟩) (hp : filePl ⟨⟨A1, c1, cs⟩, ⟨A2, c2, ss⟩, ⟨A3, c3, ns⟩⟩ = p) (hgw : hi ≤ gw) (hgl : gw < w.heap.size) (hcnt : cs.length ≤ 1048576 ∧ ss.length ≤ 1048576 ∧ ns.length ≤ 1048576) (nt c : Nat) (x0 : ByteArray) (T : List ByteArray) (hnt : T.length = nt) (hntb : nt ≤ 1048576) (hrd : RdT w (some ⟨gw, 0, none⟩) (nt + 1) (x0 :: T)) (e1 : (x0.toList == [99, 104, 97, 110, 110, 101, 108]) = false) (e2 : (x0.toList == [115, 116, 114, 111, 107, 101]) = false) (e3 : (x0.toList == [110, 111, 116, 101]) = false) :
    Calls Tryz.prog 53 #[.pointer (some ⟨bF, 0, none⟩), .slice (some ⟨gw, 0, none⟩) (nt + 1) c] w fun e w' => e = .returned (.bool false) ∧ Apart bF base w w' := by
  obtain ⟨hbk, hmi, hlt, hlo, htop⟩ := hfa
  obtain ⟨k1, k2, k3⟩ := hcnt
  obtain ⟨n1, hn1⟩ : ∃ n, cs.length = n := ⟨_, rfl⟩
  obtain ⟨n2, hn2⟩ : ∃ n, ss.length = n := ⟨_, rfl⟩
  obtain ⟨n3, hn3⟩ : ∃ n, ns.length = n := ⟨_, rfl⟩
  have hbk' : Bk w bF 26 #[.slice A1 n1 c1, .slice A2 n2 c2, .slice A3 n3 c3] := by rw [← hn1, ← hn2, ← hn3]; exact hbk
  have HBK := Lib.hid hbk'
  have HMI := Lib.hid hmi
  have HP := Lib.hid hp
  have HN1 := Lib.hid hn1
  have HN2 := Lib.hid hn2
  have HN3 := Lib.hid hn3
  rw [hn1] at k1
  rw [hn2] at k2
  rw [hn3] at k3
  have hbl : bF < w.heap.size := hbk'.lt
  have hbg : ¬ gw = bF := by omega
  clear hbk hbk' hmi hp hn1 hn2 hn3
  have y0 : w.cell? ⟨gw, 0, none⟩ = some (.string x0) := hrd.get (by simp [hnt]) (j := 0) (by simp)
  have b1 := HBK.out.cell 1
  have b2 := HBK.out.cell 2
  have hq1 : (0 : Int) ≤ (nt : Int) := by omega
  have z2 : Hid (¬ ss = [] → ((n2 : Int) == 0) = false) := fun h => by
    have h1 : ¬ ss.length = 0 := fun e => h (List.eq_nil_of_length_eq_zero e)
    rw [HN2.out] at h1
    exact beq_eq_false_iff_ne.2 (by omega)
  have z3 : Hid (¬ ns = [] → ((n3 : Int) == 0) = false) := fun h => by
    have h1 : ¬ ns.length = 0 := fun e => h (List.eq_nil_of_length_eq_zero e)
    rw [HN3.out] at h1
    exact beq_eq_false_iff_ne.2 (by omega)
  have z4 : Hid (¬ nt = 4 → ((nt : Int) + 1 == 5) = false) := fun h => beq_eq_false_iff_ne.2 (by omega)
  have z5 : Hid (¬ nt = 3 → ((nt : Int) + 1 == 4) = false) := fun h => beq_eq_false_iff_ne.2 (by omega)
  clear hnt hrd
  clear z2 z3 z4 z5
  go_enter Tryz.func53, Tryz.ntmps53
  go_wp2_with fail
  go_ret
  exact ⟨rfl, Apart.refl _ _ _⟩
set_option maxHeartbeats 2000000 in
theorem sfl_none1 (bF base hi : Nat) (A1 A2 A3 : Option Addr) (c1 c2 c3 : Nat) (cs : List Ch) (ss : List (Sl (Sl Int))) (ns : List No) (p : FlP) (gw : Nat) (w : World) (hfa : FA w bF base hi ⟨⟨A1, c1, cs⟩, ⟨A2, c2, ss⟩, ⟨A3, c3, ns⟩⟩) (hp : filePl ⟨⟨A1, c1, cs⟩, ⟨A2, c2, ss⟩, ⟨A3, c3, ns⟩⟩ = p) (hgw : hi ≤ gw) (hgl : gw < w.heap.size) (hcnt : cs.length ≤ 1048576 ∧ ss.length ≤ 1048576 ∧ ns.length ≤ 1048576) (nt c : Nat) (x0 : ByteArray) (T : List ByteArray) (hnt : T.length = nt) (hntb : nt ≤ 1048576) (hrd : RdT w (some ⟨gw, 0, none⟩) (nt + 1) (x0 :: T)) (e1 : (x0.toList == [99, 104, 97, 110, 110, 101, 108]) = true) (e2 : (x0.toList == [115, 116, 114, 111, 107, 101]) = false) (e3 : (x0.toList == [110, 111, 116, 101]) = false) (hf : ¬ nt = 4 ∨ ¬ ss = [] ∨ ¬ ns = []) :
    Calls Tryz.prog 53 #[.pointer (some ⟨bF, 0, none⟩), .slice (some ⟨gw, 0, none⟩) (nt + 1) c] w fun e w' => e = .returned (.bool false) ∧ Apart bF base w w' := by
  obtain ⟨hbk, hmi, hlt, hlo, htop⟩ := hfa
  obtain ⟨k1, k2, k3⟩ := hcnt
  obtain ⟨n1, hn1⟩ : ∃ n, cs.length = n := ⟨_, rfl⟩
  obtain ⟨n2, hn2⟩ : ∃ n, ss.length = n := ⟨_, rfl⟩
  obtain ⟨n3, hn3⟩ : ∃ n, ns.length = n := ⟨_, rfl⟩
  have hbk' : Bk w bF 26 #[.slice A1 n1 c1, .slice A2 n2 c2, .slice A3 n3 c3] := by rw [← hn1, ← hn2, ← hn3]; exact hbk
  have HBK := Lib.hid hbk'
  have HMI := Lib.hid hmi
  have HP := Lib.hid hp
  have HN1 := Lib.hid hn1
  have HN2 := Lib.hid hn2
  have HN3 := Lib.hid hn3
  rw [hn1] at k1
  rw [hn2] at k2
  rw [hn3] at k3
  have hbl : bF < w.heap.size := hbk'.lt
  have hbg : ¬ gw = bF := by omega
  clear hbk hbk' hmi hp hn1 hn2 hn3
  have y0 : w.cell? ⟨gw, 0, none⟩ = some (.string x0) := hrd.get (by simp [hnt]) (j := 0) (by simp)
  have b1 := HBK.out.cell 1
  have b2 := HBK.out.cell 2
  have hq1 : (0 : Int) ≤ (nt : Int) := by omega
  have z2 : Hid (¬ ss = [] → ((n2 : Int) == 0) = false) := fun h => by
    have h1 : ¬ ss.length = 0 := fun e => h (List.eq_nil_of_length_eq_zero e)
    rw [HN2.out] at h1
    exact beq_eq_false_iff_ne.2 (by omega)
  have z3 : Hid (¬ ns = [] → ((n3 : Int) == 0) = false) := fun h => by
    have h1 : ¬ ns.length = 0 := fun e => h (List.eq_nil_of_length_eq_zero e)
    rw [HN3.out] at h1
    exact beq_eq_false_iff_ne.2 (by omega)
  have z4 : Hid (¬ nt = 4 → ((nt : Int) + 1 == 5) = false) := fun h => beq_eq_false_iff_ne.2 (by omega)
  have z5 : Hid (¬ nt = 3 → ((nt : Int) + 1 == 4) = false) := fun h => beq_eq_false_iff_ne.2 (by omega)
  clear hnt hrd
  by_cases h4 : nt = 4
  · subst h4
    by_cases h2 : ss = []
    · obtain rfl : n2 = 0 := by rw [← HN2.out, h2]; rfl
      have h3 : ¬ ns = [] := by
        rcases hf with hf | hf | hf
        · exact absurd rfl hf
        · exact absurd h2 hf
        · exact hf
      have f3 := z3.out h3
      clear hf h2 h3 z2 z3 z4 z5
      go_enter Tryz.func53, Tryz.ntmps53
      go_wp2_with fail
      go_ret
      exact ⟨rfl, Apart.refl _ _ _⟩
    · have f2 := z2.out h2
      clear hf h2 z2 z3 z4 z5
      go_enter Tryz.func53, Tryz.ntmps53
      go_wp2_with fail
      go_ret
      exact ⟨rfl, Apart.refl _ _ _⟩
  · have f4 := z4.out h4
    clear hf h4 z2 z3 z4 z5
    go_enter Tryz.func53, Tryz.ntmps53
    go_wp2_with fail
    go_ret
    exact ⟨rfl, Apart.refl _ _ _⟩
set_option maxHeartbeats 2000000 in
theorem sfl_none2 (bF base hi : Nat) (A1 A2 A3 : Option Addr) (c1 c2 c3 : Nat) (cs : List Ch) (ss : List (Sl (Sl Int))) (ns : List No) (p : FlP) (gw : Nat) (w : World) (hfa : FA w bF base hi ⟨⟨A1, c1, cs⟩, ⟨A2, c2, ss⟩, ⟨A3, c3, ns⟩⟩) (hp : filePl ⟨⟨A1, c1, cs⟩, ⟨A2, c2, ss⟩, ⟨A3, c3, ns⟩⟩ = p) (hgw : hi ≤ gw) (hgl : gw < w.heap.size) (hcnt : cs.length ≤ 1048576 ∧ ss.length ≤ 1048576 ∧ ns.length ≤ 1048576) (nt c : Nat) (x0 : ByteArray) (T : List ByteArray) (hnt : T.length = nt) (hntb : nt ≤ 1048576) (hrd : RdT w (some ⟨gw, 0, none⟩) (nt + 1) (x0 :: T)) (e1 : (x0.toList == [99, 104, 97, 110, 110, 101, 108]) = false) (e2 : (x0.toList == [115, 116, 114, 111, 107, 101]) = true) (e3 : (x0.toList == [110, 111, 116, 101]) = false) (hf : ¬ ns = []) :
    Calls Tryz.prog 53 #[.pointer (some ⟨bF, 0, none⟩), .slice (some ⟨gw, 0, none⟩) (nt + 1) c] w fun e w' => e = .returned (.bool false) ∧ Apart bF base w w' := by
  obtain ⟨hbk, hmi, hlt, hlo, htop⟩ := hfa
  obtain ⟨k1, k2, k3⟩ := hcnt
  obtain ⟨n1, hn1⟩ : ∃ n, cs.length = n := ⟨_, rfl⟩
  obtain ⟨n2, hn2⟩ : ∃ n, ss.length = n := ⟨_, rfl⟩
  obtain ⟨n3, hn3⟩ : ∃ n, ns.length = n := ⟨_, rfl⟩
  have hbk' : Bk w bF 26 #[.slice A1 n1 c1, .slice A2 n2 c2, .slice A3 n3 c3] := by rw [← hn1, ← hn2, ← hn3]; exact hbk
  have HBK := Lib.hid hbk'
  have HMI := Lib.hid hmi
  have HP := Lib.hid hp
  have HN1 := Lib.hid hn1
  have HN2 := Lib.hid hn2
  have HN3 := Lib.hid hn3
  rw [hn1] at k1
  rw [hn2] at k2
  rw [hn3] at k3
  have hbl : bF < w.heap.size := hbk'.lt
  have hbg : ¬ gw = bF := by omega
  clear hbk hbk' hmi hp hn1 hn2 hn3
  have y0 : w.cell? ⟨gw, 0, none⟩ = some (.string x0) := hrd.get (by simp [hnt]) (j := 0) (by simp)
  have b1 := HBK.out.cell 1
  have b2 := HBK.out.cell 2
  have hq1 : (0 : Int) ≤ (nt : Int) := by omega
  have z2 : Hid (¬ ss = [] → ((n2 : Int) == 0) = false) := fun h => by
    have h1 : ¬ ss.length = 0 := fun e => h (List.eq_nil_of_length_eq_zero e)
    rw [HN2.out] at h1
    exact beq_eq_false_iff_ne.2 (by omega)
  have z3 : Hid (¬ ns = [] → ((n3 : Int) == 0) = false) := fun h => by
    have h1 : ¬ ns.length = 0 := fun e => h (List.eq_nil_of_length_eq_zero e)
    rw [HN3.out] at h1
    exact beq_eq_false_iff_ne.2 (by omega)
  have z4 : Hid (¬ nt = 4 → ((nt : Int) + 1 == 5) = false) := fun h => beq_eq_false_iff_ne.2 (by omega)
  have z5 : Hid (¬ nt = 3 → ((nt : Int) + 1 == 4) = false) := fun h => beq_eq_false_iff_ne.2 (by omega)
  clear hnt hrd
  have f3 := z3.out hf
  clear hf
  go_enter Tryz.func53, Tryz.ntmps53
  go_wp2_with fail
  go_ret
  exact ⟨rfl, Apart.refl _ _ _⟩
set_option maxHeartbeats 2000000 in
theorem sfl_none3 (bF base hi : Nat) (A1 A2 A3 : Option Addr) (c1 c2 c3 : Nat) (cs : List Ch) (ss : List (Sl (Sl Int))) (ns : List No) (p : FlP) (gw : Nat) (w : World) (hfa : FA w bF base hi ⟨⟨A1, c1, cs⟩, ⟨A2, c2, ss⟩, ⟨A3, c3, ns⟩⟩) (hp : filePl ⟨⟨A1, c1, cs⟩, ⟨A2, c2, ss⟩, ⟨A3, c3, ns⟩⟩ = p) (hgw : hi ≤ gw) (hgl : gw < w.heap.size) (hcnt : cs.length ≤ 1048576 ∧ ss.length ≤ 1048576 ∧ ns.length ≤ 1048576) (nt c : Nat) (x0 : ByteArray) (T : List ByteArray) (hnt : T.length = nt) (hntb : nt ≤ 1048576) (hrd : RdT w (some ⟨gw, 0, none⟩) (nt + 1) (x0 :: T)) (e1 : (x0.toList == [99, 104, 97, 110, 110, 101, 108]) = false) (e2 : (x0.toList == [115, 116, 114, 111, 107, 101]) = false) (e3 : (x0.toList == [110, 111, 116, 101]) = true) (hf : ¬ nt = 3) :
    Calls Tryz.prog 53 #[.pointer (some ⟨bF, 0, none⟩), .slice (some ⟨gw, 0, none⟩) (nt + 1) c] w fun e w' => e = .returned (.bool false) ∧ Apart bF base w w' := by
  obtain ⟨hbk, hmi, hlt, hlo, htop⟩ := hfa
  obtain ⟨k1, k2, k3⟩ := hcnt
  obtain ⟨n1, hn1⟩ : ∃ n, cs.length = n := ⟨_, rfl⟩
  obtain ⟨n2, hn2⟩ : ∃ n, ss.length = n := ⟨_, rfl⟩
  obtain ⟨n3, hn3⟩ : ∃ n, ns.length = n := ⟨_, rfl⟩
  have hbk' : Bk w bF 26 #[.slice A1 n1 c1, .slice A2 n2 c2, .slice A3 n3 c3] := by rw [← hn1, ← hn2, ← hn3]; exact hbk
  have HBK := Lib.hid hbk'
  have HMI := Lib.hid hmi
  have HP := Lib.hid hp
  have HN1 := Lib.hid hn1
  have HN2 := Lib.hid hn2
  have HN3 := Lib.hid hn3
  rw [hn1] at k1
  rw [hn2] at k2
  rw [hn3] at k3
  have hbl : bF < w.heap.size := hbk'.lt
  have hbg : ¬ gw = bF := by omega
  clear hbk hbk' hmi hp hn1 hn2 hn3
  have y0 : w.cell? ⟨gw, 0, none⟩ = some (.string x0) := hrd.get (by simp [hnt]) (j := 0) (by simp)
  have b1 := HBK.out.cell 1
  have b2 := HBK.out.cell 2
  have hq1 : (0 : Int) ≤ (nt : Int) := by omega
  have z2 : Hid (¬ ss = [] → ((n2 : Int) == 0) = false) := fun h => by
    have h1 : ¬ ss.length = 0 := fun e => h (List.eq_nil_of_length_eq_zero e)
    rw [HN2.out] at h1
    exact beq_eq_false_iff_ne.2 (by omega)
  have z3 : Hid (¬ ns = [] → ((n3 : Int) == 0) = false) := fun h => by
    have h1 : ¬ ns.length = 0 := fun e => h (List.eq_nil_of_length_eq_zero e)
    rw [HN3.out] at h1
    exact beq_eq_false_iff_ne.2 (by omega)
  have z4 : Hid (¬ nt = 4 → ((nt : Int) + 1 == 5) = false) := fun h => beq_eq_false_iff_ne.2 (by omega)
  have z5 : Hid (¬ nt = 3 → ((nt : Int) + 1 == 4) = false) := fun h => beq_eq_false_iff_ne.2 (by omega)
  clear hnt hrd
  have f5 := z5.out hf
  clear hf
  go_enter Tryz.func53, Tryz.ntmps53
  go_wp2_with fail
  go_ret
  exact ⟨rfl, Apart.refl _ _ _⟩
def stO (p : FlP) (ro : Option (List (List Int))) : Option FlP := match ro with
  | none => none
  | some r => some (addSt p r)
def iteP (b : Bool) (q : FlP) : Option FlP := if b = true then some q else none
theorem FaPostB.to {ok : Bool} {bF base : Nat} {q : FlP} {o : Option FlP} {w w' : World} {e : Ending} (hq : iteP ok q = o) (h : FaPostB ok bF base q w e w') : (o = none ∧ e = .returned (.bool false) ∧ Apart bF base w w') ∨ ∃ q, o = some q ∧ FaPost bF base q w e w' := by
  obtain ⟨f', he, hp, hfa, hA⟩ := h
  cases ok
  · exact .inl ⟨hq.symm, he, hA⟩
  · exact .inr ⟨q, hq.symm, f', he, hp, hfa, hA⟩
set_option maxHeartbeats 1000000 in
theorem l03Line_any (bF base hi : Nat) (f : Fl) (p : FlP) (gw n c : Nat) (W : List ByteArray) (o : Option FlP) (w : World) (hfa : FA w bF base hi f) (hp : filePl f = p) (hgw : hi ≤ gw) (hgl : gw < w.heap.size) (hcnt : f.ch.l.length ≤ 1048576 ∧ f.st.l.length ≤ 1048576 ∧ f.no.l.length ≤ 1048576) (hn : W.length = n) (hn1 : 1 ≤ n) (hnb : n ≤ 1048576) (hc : n ≤ c) (hrd : RdT w (some ⟨gw, 0, none⟩) n W) (hts : ∀ x ∈ W, x.size ≤ 1048575) (hR : Hid (sLine p (W.map fun x => x.data.toList) = o)) :
    Calls Tryz.prog 53 #[.pointer (some ⟨bF, 0, none⟩), .slice (some ⟨gw, 0, none⟩) n c] w fun e w' => (o = none ∧ e = .returned (.bool false) ∧ Apart bF base w w') ∨ ∃ q, o = some q ∧ FaPost bF base q w e w' := by
  obtain ⟨⟨A1, c1, cs⟩, ⟨A2, c2, ss⟩, ⟨A3, c3, ns⟩⟩ := f
  obtain ⟨x0, T, rfl⟩ : ∃ x0 T, W = x0 :: T := by
    cases W with
    | nil => simp at hn; omega
    | cons a T => exact ⟨a, T, rfl⟩
  obtain ⟨nt, hnt⟩ : ∃ nt, T.length = nt := ⟨_, rfl⟩
  obtain rfl : nt + 1 = n := by rw [← hn, List.length_cons, hnt]
  have hR := hR.out
  have key : ∀ l : List UInt8, (x0.toList == l) = decide (x0.data.toList = l) := fun l => by
    rw [toList_data]
    by_cases h : x0.data.toList = l
    · rw [decide_eq_true h]; simpa using h
    · rw [decide_eq_false h]; simpa using h
  have hlen : (List.map (fun x => x.data.toList) (x0 :: T)).length = nt + 1 := by rw [List.length_map, List.length_cons, hnt]
  have hps : p.st = ss.map rowsK.pl := by rw [← hp]; rfl
  have hpn : p.no = ns := by rw [← hp]; rfl
  have hst0 : p.st = [] ↔ ss = [] := by rw [hps]; simp
  have hno0 : p.no = [] ↔ ns = [] := by rw [hpn]
  by_cases h1 : x0.data.toList = wCh
  · have e1 : (x0.toList == [99, 104, 97, 110, 110, 101, 108]) = true := by rw [key]; exact decide_eq_true h1
    have e2 : (x0.toList == [115, 116, 114, 111, 107, 101]) = false := by rw [key, h1]; decide
    have e3 : (x0.toList == [110, 111, 116, 101]) = false := by rw [key, h1]; decide
    by_cases hall : nt = 4 ∧ ss = [] ∧ ns = []
    · obtain ⟨h4, hs0, hn0⟩ := hall
      subst h4
      obtain ⟨x1, x2, x3, x4, rfl⟩ := len4 hnt
      obtain ⟨ok, hok⟩ : ∃ b, ((decR x3.data.toList).2 && (decR x4.data.toList).2) = b := ⟨_, rfl⟩
      have hq : iteP ok (addCh p ⟨x1, x2, (decR x3.data.toList).1, (decR x4.data.toList).1⟩) = o := by
        rw [← hR]
        unfold sLine
        rw [if_pos ⟨h1, rfl, hst0.2 hs0, hno0.2 hn0⟩]
        cases ok
        · rw [if_neg (fun h => by
            have h3 : (decR x3.data.toList).2 = true := h.1
            have h4 : (decR x4.data.toList).2 = true := h.2
            rw [h3, h4] at hok; cases hok)]
          rfl
        · rw [Bool.and_eq_true] at hok
          rw [if_pos ⟨hok.1, hok.2⟩]
          rfl
      refine (sfl_ch bF base hi A1 A2 A3 c1 c2 c3 cs ss ns p gw w hfa hp hgw hgl hcnt c (by omega) x0 x1 x2 x3 x4 hrd (Nat.le_trans (hts _ (by simp)) (by omega)) (Nat.le_trans (hts _ (by simp)) (by omega)) e1 e2 hs0 hn0 ok hok).mono ?_
      intro e w' hpost
      exact FaPostB.to hq hpost
    · have hq : o = none := by
        rw [← hR]
        unfold sLine
        rw [if_neg (fun h => hall ⟨by have := h.2.1; rw [hlen] at this; omega, hst0.1 h.2.2.1, hno0.1 h.2.2.2⟩), if_neg (fun h => by have h' : x0.data.toList = wSt := h.1; rw [h1] at h'; exact absurd h' (by decide)), if_neg (fun h => by have h' : x0.data.toList = wNo := h.1; rw [h1] at h'; exact absurd h' (by decide))]
      refine (sfl_none1 bF base hi A1 A2 A3 c1 c2 c3 cs ss ns p gw w hfa hp hgw hgl hcnt nt c x0 T hnt (by omega) hrd e1 e2 e3 ?_).mono ?_
      · by_cases h4 : nt = 4
        · by_cases h5 : ss = []
          · exact .inr (.inr fun h6 => hall ⟨h4, h5, h6⟩)
          · exact .inr (.inl h5)
        · exact .inl h4
      · rintro e w' ⟨he1, he2⟩
        exact .inl ⟨hq, he1, he2⟩
  · have e1 : (x0.toList == [99, 104, 97, 110, 110, 101, 108]) = false := by rw [key]; exact decide_eq_false h1
    by_cases h2 : x0.data.toList = wSt
    · have e2 : (x0.toList == [115, 116, 114, 111, 107, 101]) = true := by rw [key]; exact decide_eq_true h2
      have e3 : (x0.toList == [110, 111, 116, 101]) = false := by rw [key, h2]; decide
      by_cases hn0 : ns = []
      · obtain ⟨ro, hro⟩ : ∃ r, allM sRow (T.map fun x => x.data.toList) = r := ⟨_, rfl⟩
        have hq : stO p ro = o := by
          rw [← hR]
          unfold sLine
          rw [if_neg (fun h => h1 h.1), if_pos ⟨show ((x0 :: T).map fun x => x.data.toList).getD 0 [] = wSt from h2, hno0.2 hn0⟩, List.map_cons, List.tail_cons, hro]
          rfl
        refine (sfl_st bF base hi A1 A2 A3 c1 c2 c3 cs ss ns p gw w hfa hp hgw hgl hcnt nt c x0 T hnt (by omega) hrd (fun x hx => hts x (List.mem_cons_of_mem _ hx)) e1 e2 hn0 ro hro).mono ?_
        rintro e w' (⟨rfl, he1, he2⟩ | ⟨rs, rfl, hpost⟩)
        · exact .inl ⟨hq.symm, he1, he2⟩
        · exact .inr ⟨_, hq.symm, hpost⟩
      · have hq : o = none := by
          rw [← hR]
          unfold sLine
          rw [if_neg (fun h => h1 h.1), if_neg (fun h => hn0 (hno0.1 h.2)), if_neg (fun h => by have h' : x0.data.toList = wNo := h.1; rw [h2] at h'; exact absurd h' (by decide))]
        refine (sfl_none2 bF base hi A1 A2 A3 c1 c2 c3 cs ss ns p gw w hfa hp hgw hgl hcnt nt c x0 T hnt (by omega) hrd e1 e2 e3 hn0).mono ?_
        rintro e w' ⟨he1, he2⟩
        exact .inl ⟨hq, he1, he2⟩
    · have e2 : (x0.toList == [115, 116, 114, 111, 107, 101]) = false := by rw [key]; exact decide_eq_false h2
      by_cases h3 : x0.data.toList = wNo
      · have e3 : (x0.toList == [110, 111, 116, 101]) = true := by rw [key]; exact decide_eq_true h3
        by_cases h4 : nt = 3
        · subst h4
          obtain ⟨x1, x2, x3, rfl⟩ := len3 hnt
          obtain ⟨ok, hok⟩ : ∃ b, ((decR x1.data.toList).2 && (decR x2.data.toList).2) = b := ⟨_, rfl⟩
          have hq : iteP ok (addNo p ⟨(decR x1.data.toList).1, (decR x2.data.toList).1, x3⟩) = o := by
            rw [← hR]
            unfold sLine
            rw [if_neg (fun h => h1 h.1), if_neg (fun h => h2 h.1), if_pos ⟨h3, rfl⟩]
            cases ok
            · rw [if_neg (fun h => by
                have h5 : (decR x1.data.toList).2 = true := h.1
                have h6 : (decR x2.data.toList).2 = true := h.2
                rw [h5, h6] at hok; cases hok)]
              rfl
            · rw [Bool.and_eq_true] at hok
              rw [if_pos ⟨hok.1, hok.2⟩]
              rfl
          refine (sfl_no bF base hi A1 A2 A3 c1 c2 c3 cs ss ns p gw w hfa hp hgw hgl hcnt c (by omega) x0 x1 x2 x3 hrd (Nat.le_trans (hts _ (by simp)) (by omega)) (Nat.le_trans (hts _ (by simp)) (by omega)) e1 e2 e3 ok hok).mono ?_
          intro e w' hpost
          exact FaPostB.to hq hpost
        · have hq : o = none := by
            rw [← hR]
            unfold sLine
            rw [if_neg (fun h => h1 h.1), if_neg (fun h => h2 h.1), if_neg (fun h => h4 (by have := h.2; rw [hlen] at this; omega))]
          refine (sfl_none3 bF base hi A1 A2 A3 c1 c2 c3 cs ss ns p gw w hfa hp hgw hgl hcnt nt c x0 T hnt (by omega) hrd e1 e2 e3 h4).mono ?_
          rintro e w' ⟨he1, he2⟩
          exact .inl ⟨hq, he1, he2⟩
      · have e3 : (x0.toList == [110, 111, 116, 101]) = false := by rw [key]; exact decide_eq_false h3
        have hq : o = none := by
          rw [← hR]
          unfold sLine
          rw [if_neg (fun h => h1 h.1), if_neg (fun h => h2 h.1), if_neg (fun h => h3 h.1)]
        refine (sfl_none0 bF base hi A1 A2 A3 c1 c2 c3 cs ss ns p gw w hfa hp hgw hgl hcnt nt c x0 T hnt (by omega) hrd e1 e2 e3).mono ?_
        rintro e w' ⟨he1, he2⟩
        exact .inl ⟨hq, he1, he2⟩
end Go.Proofs.YtmdmjnhebbhjbaaGreatDoor
namespace Go.Proofs.YtmdmjnhebbhjbaaGreatDoor
set_option linter.unusedSimpArgs false
set_option linter.unusedVariables false
set_option maxRecDepth 20000
open Go.RowKit
open Go.ChangeShapes Go.WideShapes Go.Deep Go.Joins

/-- what the reference's reader of lines answers -/
def ResR (s : List UInt8) (p : FlP) (b : Bool) : Prop := (rdF sLine s = none ∧ fl0 = p ∧ false = b) ∨ (rdF sLine s = some p ∧ Is b (FileOk p))
theorem resR_any (s : List UInt8) : ∃ p b, ResR s p b := by
  cases h : rdF sLine s with
  | none => exact ⟨fl0, false, .inl ⟨h, rfl, rfl⟩⟩
  | some p =>
    obtain ⟨v, hv⟩ := bool_of (FileOk p)
    exact ⟨p, v, .inr ⟨h, hv⟩⟩
theorem ResR.no {s : List UInt8} {p : FlP} {b : Bool} (h : ResR s p b) (h2 : rdF sLine s = none) : fl0 = p ∧ false = b := by
  rcases h with ⟨_, h3, h4⟩ | ⟨h3, _⟩
  · exact ⟨h3, h4⟩
  · rw [h2] at h3; cases h3
theorem ResR.yes {s : List UInt8} {p q : FlP} {b : Bool} (h : ResR s p b) (h2 : rdF sLine s = some q) : q = p ∧ Is b (FileOk q) := by
  rcases h with ⟨h3, _, _⟩ | ⟨h3, h4⟩
  · rw [h2] at h3; cases h3
  · rw [h2] at h3
    injection h3 with h3
    subst h3
    exact ⟨rfl, h4⟩
theorem ResR.res {s : List UInt8} {p q : FlP} {b c : Bool} (h : ResR s p b) (h2 : ResF s q c) : (b = false → fl0 = q ∧ false = c) ∧ (b = true → p = q ∧ true = c) := by
  refine ⟨fun hb => h2.no fun x hx => ?_, fun hb => h2.yes ?_⟩
  · rcases h with ⟨h3, _, _⟩ | ⟨h3, h4⟩
    · rw [GoodS, h3] at hx; cases hx.1
    · have h5 := hx.1
      rw [h3] at h5
      injection h5 with h5
      subst h5
      have h6 := h4.2 hx.2
      rw [hb] at h6; cases h6
  · rcases h with ⟨_, _, h4⟩ | ⟨h3, h4⟩
    · rw [hb] at h4; cases h4
    · exact ⟨h3, h4.1 hb⟩
theorem foldS_sz {L : List (List UInt8)} {p : FlP} {k : Nat} {s : List UInt8} (hs : linesD s = some L) (hl : s.length ≤ 1048576) (h : foldO sLine fl0 ((L.take k).map (splitL 32)) = some p) : SzB p 1048576 :=
  fold_sz hs hl (foldO_mono (fun b a c h => sLine_iLine h) h)
theorem S6.store3 {W0 w : World} {C : Nat} (h : (∀ kb ko, kb < W0.heap.size → ¬ kb = C → w.cell? ⟨kb, ko, none⟩ = W0.cell? ⟨kb, ko, none⟩) ∧ W0.heap.size ≤ w.heap.size ∧ Below C W0 w) (a b c : Value) :
    (∀ kb ko, kb < W0.heap.size → ¬ kb = C → (((w.setCell ⟨C, 0, none⟩ a).setCell ⟨C, 1, none⟩ b).setCell ⟨C, 2, none⟩ c).cell? ⟨kb, ko, none⟩ = W0.cell? ⟨kb, ko, none⟩) ∧ W0.heap.size ≤ (((w.setCell ⟨C, 0, none⟩ a).setCell ⟨C, 1, none⟩ b).setCell ⟨C, 2, none⟩ c).heap.size ∧ Below C W0 (((w.setCell ⟨C, 0, none⟩ a).setCell ⟨C, 1, none⟩ b).setCell ⟨C, 2, none⟩ c) :=
  ⟨fun kb ko h1 h3 => (World.cell?_of_block ((Below.heap_setCell _ ⟨C, 2, none⟩ _ kb h3).trans ((Below.heap_setCell _ ⟨C, 1, none⟩ _ kb h3).trans (Below.heap_setCell w ⟨C, 0, none⟩ _ kb h3)))).trans (h.1 kb ko h1 h3), by simpa [World.setCell] using h.2.1, ((h.2.2.setCell (Nat.le_refl _) a).setCell (Nat.le_refl _) b).setCell (Nat.le_refl _) c⟩
set_option maxHeartbeats 8000000 in
theorem l03Read_any (s : ByteArray) (hs : s.size ≤ 1048576) (p : FlP) (b : Bool) (hR : Hid (ResR s.data.toList p b)) (w : World) :
    Calls Tryz.prog 18 #[.string s] w fun e w' => ∃ f, e = .returned (.tuple #[.agg #[.slice f.ch.A f.ch.l.length f.ch.c, .slice f.st.A f.st.l.length f.st.c, .slice f.no.A f.no.l.length f.no.c], .bool b]) ∧ filePl f = p ∧ FileMine w' w.heap.size w'.heap.size f ∧ Below w.heap.size w w' := by
  have hsl : s.data.toList.length = s.size := Array.length_toList
  have HRw := Lib.hid (Bk.new w #[.slice none 0 0, .slice none 0 0, .slice none 0 0] 26)
  obtain ⟨n, hn⟩ : ∃ n, (splitL 10 s.data.toList).length = n + 1 := ⟨(splitL 10 s.data.toList).length - 1, by have := splitL_ne 10 s.data.toList; have h2 := List.length_pos_iff.2 this; omega⟩
  have HM1 : Hid ((splitBs 10 s).length = n + 1) := by rw [Hid]; unfold splitBs; rw [List.length_map, hn]
  have kl : n < (splitL 10 s.data.toList).length := by omega
  have klB : n < (splitBs 10 s).length := by have := HM1.out; omega
  have hLS : linesD s.data.toList = if (splitL 10 s.data.toList)[n] = [] then some (splitL 10 s.data.toList).dropLast else none := by
    rw [← lines_same]
    unfold linesS
    have e : (splitL 10 s.data.toList).getLast? = some (splitL 10 s.data.toList)[n] := by rw [List.getLast?_eq_getElem?, hn]; simp
    rw [e]
    by_cases h : (splitL 10 s.data.toList)[n] = []
    · rw [if_pos h, if_pos (by rw [h])]
    · rw [if_neg h, if_neg (by simpa using h)]
  have hnb : n ≤ 1048576 := by have := splitL_count 10 s.data.toList; omega
  obtain ⟨x, hx⟩ : ∃ x, (splitBs 10 s)[n] = x := ⟨_, rfl⟩
  have hxl : x.data.toList = (splitL 10 s.data.toList)[n] := by rw [← hx]; exact split_at rfl klB kl
  have HN1 := Lib.hid hn
  have HXX := Lib.hid hx
  have HLS := Lib.hid hLS
  have HXL := Lib.hid hxl
  have HSL := Lib.hid (show s.data.toList.length ≤ 1048576 by omega)
  clear hLS hn hx hxl
  have hn0 : (0 : Int) ≤ (n : Int) := by omega
  have hn1 : (n : Int) < (n : Int) + 1 := by omega
  by_cases hx0 : x.data.toList = []
  rotate_left
  · have hno : rdF sLine s.data.toList = none := rdF_none (by rw [HLS.out, if_neg (by rw [← HXL.out]; exact hx0)])
    obtain ⟨hp0, hb0⟩ := hR.out.no hno
    subst hp0; subst hb0
    have hl0 : (x.toList.isEmpty) = false := by rw [List.isEmpty_eq_false_iff, ByteArray.toList_eq]; exact hx0
    clear hx0 hno
    go_enter Tryz.func18, Tryz.ntmps18
    go_wp2_with fail
    refine (l01Split_n s 10 (n + 1) _ HM1.out hs).mono ?_
    rintro e w2 ⟨Aw, cw, rfl, hown2, hb2⟩
    have hT2 : Below w.heap.size w w2 := Below.next (by go_grown) hb2
    have HRw2 := Lib.hid (HRw.out.next hb2)
    have hrd2 := hown2.rdS HM1.out
    obtain ⟨b2, o2, e2, l2, hc2⟩ := hrd2.at sC_len HM1.out klB
    subst e2
    rw [HXX.out] at hc2
    have a2 : w2.cell? ⟨b2, o2 + n, none⟩ = some (.string x) := by simpa using hc2 0 _ rfl
    have er0 := HRw2.out.cell 0
    have er1 := HRw2.out.cell 1
    have er2 := HRw2.out.cell 2
    have fr0 := HRw2.out.frozen 0
    have fr1 := HRw2.out.frozen 1
    have fr2 := HRw2.out.frozen 2
    have hgr := HRw2.out.lt
    clear hown2 hb2 hc2 hrd2
    go_wp2_with fail
    refine bodyPost_ret (by simp [results, Tryz.results18, go_sem, *]; try rfl) rfl ?_
    exact ⟨⟨⟨none, 0, []⟩, ⟨none, 0, []⟩, ⟨none, 0, []⟩⟩, rfl, rfl, FileMine.nil _ _ _, by have hT9 := hT2; go_grown⟩
  obtain ⟨L, hL⟩ : ∃ L, (splitL 10 s.data.toList).dropLast = L := ⟨_, rfl⟩
  have hD : linesD s.data.toList = some L := by rw [HLS.out, if_pos (by rw [← HXL.out]; exact hx0), hL]
  obtain ⟨hb1, hb2⟩ := linesD_bd hD (by omega)
  have hLN : L.length = n := by rw [← hL, List.length_dropLast, HN1.out]; rfl
  have hLat : ∀ k (h1 : k < L.length) (h2 : k < (splitL 10 s.data.toList).length), L[k] = (splitL 10 s.data.toList)[k] := fun k h1 h2 => by subst hL; simp
  have HD := Lib.hid hD
  have HLB := Lib.hid hb2
  have LN := Lib.hid hLN
  have HLA := Lib.hid hLat
  have hl0 : (x.toList.isEmpty) = true := by rw [List.isEmpty_iff, ByteArray.toList_eq]; exact hx0
  clear hL hD hb1 hb2 hLN hLat hx0
  go_enter Tryz.func18, Tryz.ntmps18
  go_wp2_with fail
  refine (l01Split_n s 10 (n + 1) _ HM1.out hs).mono ?_
  rintro e w2 ⟨Aw, cw, rfl, hown2, hb2⟩
  have hT2 : Below w.heap.size w w2 := Below.next (by go_grown) hb2
  have HRw2 := Lib.hid (HRw.out.next hb2)
  have hrd2 := hown2.rdS HM1.out
  have HRD := Lib.hid hrd2
  obtain ⟨b2, o2, e2, l2, hc2⟩ := hrd2.at sC_len HM1.out klB
  subst e2
  rw [HXX.out] at hc2
  have a2 : w2.cell? ⟨b2, o2 + n, none⟩ = some (.string x) := by simpa using hc2 0 _ rfl
  have hgr2 := HRw2.out.lt
  have HF0 : Hid (FA (w2.alloc (.cells #[.slice none 0 0, .slice none 0 0, .slice none 0 0] 26)) w2.heap.size (w2.heap.size + 1) (w2.alloc (.cells #[.slice none 0 0, .slice none 0 0, .slice none 0 0] 26)).heap.size ⟨⟨none, 0, []⟩, ⟨none, 0, []⟩, ⟨none, 0, []⟩⟩) := ⟨Bk.new w2 _ _, FileMine.nil _ _ _, by omega, by simp, Nat.le_refl _⟩
  clear hown2 hb2 hc2 hrd2
  go_wp2_with fail
  clear a2
  go_loopw [6] (fun i wr => ∃ (k : Nat) (f : Fl) (p' : FlP), k ≤ n ∧ i = .int .i64 (k : Int) ∧ Hid (filePl f = p') ∧ Hid (foldO sLine fl0 ((L.take k).map (splitL 32)) = some p') ∧ Hid (FA wr w2.heap.size (w2.heap.size + 1) wr.heap.size f) ∧ Apart w2.heap.size (w2.heap.size + 1) (w2.alloc (.cells #[.slice none 0 0, .slice none 0 0, .slice none 0 0] 26)) wr) (fun i _ => n - (intOf i).toNat)
  case atStart => exact ⟨0, ⟨⟨none, 0, []⟩, ⟨none, 0, []⟩, ⟨none, 0, []⟩⟩, fl0, Nat.zero_le _, rfl, rfl, rfl, HF0.out, Apart.refl _ _ _⟩
  case round =>
    obtain ⟨wo, rfl⟩ : ∃ wo, wo = wr := ⟨wr, rfl⟩
    obtain ⟨k, f, p', hk, rfl, hpl, hfo, hfa, hA⟩ := hrel
    have hAs := hA.size
    simp only [World.size_alloc] at hAs
    have hAB : Below w2.heap.size (w2.alloc (.cells #[.slice none 0 0, .slice none 0 0, .slice none 0 0] 26)) wo := hA.below (Nat.le_refl _) (by omega)
    have hWd : Below w2.heap.size w2 wo := ((Below.refl _ _).alloc (Nat.le_refl _) _).trans hAB
    have hW0 : Below w.heap.size w wo := Below.next hT2 hWd
    have hW0s := hW0.size
    have HRwo := Lib.hid (HRw2.out.next hWd)
    have hsz := foldS_sz HD.out HSL.out hfo.out
    obtain ⟨hPs, hPt⟩ := hsz.pl (Nat.le_refl _)
    have HPS := Lib.hid hPs
    have HPT := Lib.hid hPt
    have hl1 : f.ch.l.length ≤ 1048576 := by have h1 := hPs.ch; rw [← hpl.out] at h1; exact h1
    have hl2 : f.st.l.length ≤ 1048576 := by have h1 := hPs.st; rw [← hpl.out] at h1; show _; rw [← List.length_map (f := rowsK.pl)]; exact h1
    have hl3 : f.no.l.length ≤ 1048576 := by have h1 := hPs.no; rw [← hpl.out] at h1; exact h1
    clear hsz hPs hPt
    by_cases hlt : k < n
    · have kL : k < L.length := by rw [LN.out]; exact hlt
      have kB : k < (splitBs 10 s).length := by rw [HM1.out]; omega
      have kS : k < (splitL 10 s.data.toList).length := by rw [HN1.out]; omega
      obtain ⟨y, hy⟩ : ∃ y, (splitBs 10 s)[k] = y := ⟨_, rfl⟩
      have hyl : y.data.toList = L[k] := by rw [← hy, HLA.out k kL kS]; exact split_at rfl kB kS
      have hys : y.size ≤ 1048575 := by
        have h1 := HLB.out _ (List.getElem_mem kL)
        rw [← hyl] at h1
        have h3 : y.data.toList.length = y.size := Array.length_toList
        omega
      obtain ⟨b3, o3, e3, l3, hc3⟩ := (HRD.out.below hWd).at sC_len HM1.out kB
      rw [hy] at hc3
      have a3 : wo.cell? ⟨b2, o2 + k, none⟩ = some (.string y) := by injection e3 with e3; injection e3 with e3 e4; subst e3; subst e4; simpa using hc3 0 _ rfl
      have hk1 : ((k : Int) + 1 < (n : Int) + 1) := by omega
      have hk0 : (0 : Int) ≤ (k : Int) := by omega
      obtain ⟨m, hm⟩ : ∃ m, (splitBs 32 y).length = m := ⟨_, rfl⟩
      have HMM := Lib.hid hm
      have hm1 : 1 ≤ m := by
        rw [← hm]
        have h1 := splitL_ne 32 y.data.toList
        have h2 := List.length_pos_iff.2 h1
        unfold splitBs
        rw [List.length_map]
        exact h2
      have hmb : m ≤ 1048576 := by have := splitBs_len 32 y; omega
      have HTS : Hid (∀ z ∈ splitBs 32 y, z.size ≤ 1048575) := fun z hz => by have := split_size hz; omega
      obtain ⟨o, ho⟩ : ∃ o, sLine p' ((splitBs 32 y).map fun z => z.data.toList) = o := ⟨_, rfl⟩
      have HO := Lib.hid ho
      have HLI : Hid (sLine p' (splitL 32 L[k]) = o) := by rw [Hid, ← words_of hyl]; exact ho
      clear hy hc3 e3 hyl l3 hm ho
      go_wp2_with fail
      refine (l01Split_n y 32 m _ HMM.out (by omega)).mono ?_
      rintro e w3 ⟨A4, c4, rfl, hown4, hb4⟩
      obtain ⟨gw, rfl, hcm, hgw, hgl⟩ := hown4.addr (by omega)
      have hrw : RdT w3 (some ⟨gw, 0, none⟩) m (splitBs 32 y) := hown4.rdS HMM.out
      have hB3 : Below w.heap.size w w3 := Below.next hW0 hb4
      have hfa3 := hfa.out.next hb4
      have hA3 : Apart w2.heap.size (w2.heap.size + 1) (w2.alloc (.cells #[.slice none 0 0, .slice none 0 0, .slice none 0 0] 26)) w3 := hA.trans (Apart.of_below (hb4.mono (by omega)))
      have hz3 := hb4.size
      have hcl := l03Line_any w2.heap.size (w2.heap.size + 1) wo.heap.size f p' gw m c4 (splitBs 32 y) o w3 hfa3 hpl.out hgw hgl ⟨hl1, hl2, hl3⟩ HMM.out hm1 hmb hcm hrw HTS.out HO
      clear hb4 hrw a3 hfa3 hown4
      go_wp2_with fail
      refine hcl.mono ?_
      rintro e w4 (⟨rfl, rfl, hA4⟩ | ⟨q, rfl, f', rfl, hpl4, hfa4, hA4⟩)
      · have hA5 := hA3.trans hA4
        have hW4 : Below w.heap.size w w4 := Below.next hT2 (((Below.refl _ _).alloc (Nat.le_refl _) _).trans (hA5.below (Nat.le_refl _) (by omega)))
        have HRw4 := Lib.hid (((HRw2.out.alloc (.cells #[.slice none 0 0, .slice none 0 0, .slice none 0 0] 26)).below (hA5.below (Nat.le_refl _) (by omega)) hgr2))
        obtain ⟨hp0, hb0⟩ := hR.out.no (by rw [rdF_lines HD.out]; exact fold_bad hfo.out kL HLI.out)
        subst hp0; subst hb0
        have er0 := HRw4.out.cell 0
        have er1 := HRw4.out.cell 1
        have er2 := HRw4.out.cell 2
        have fr0 := HRw4.out.frozen 0
        have fr1 := HRw4.out.frozen 1
        have fr2 := HRw4.out.frozen 2
        have hgr := HRw4.out.lt
        clear hcl hA4 hA3
        go_wp2_with fail
        refine bodyPost_ret (by simp [results, Tryz.results18, go_sem, *]; try rfl) rfl ?_
        exact ⟨⟨⟨none, 0, []⟩, ⟨none, 0, []⟩, ⟨none, 0, []⟩⟩, rfl, rfl, FileMine.nil _ _ _, by have hT9 := hW4; go_grown⟩
      · clear hcl
        have HFA4 := Lib.hid hfa4
        have HPL4 := Lib.hid hpl4
        clear hfa4 hpl4
        go_wp2_with fail
        go_roundw
        case rel => exact ⟨k + 1, f', q, by omega, by go_num, HPL4.out, fold_take hfo.out kL HLI.out, HFA4.out, hA3.trans hA4⟩
        case measure => (simp [intOf]; try omega)
    · obtain rfl : k = n := by omega
      have hrdF : rdF sLine s.data.toList = some p' := by
        rw [rdF_lines HD.out]
        have h1 := hfo.out
        rw [List.take_of_length_le (by rw [LN.out]; exact Nat.le_refl _)] at h1
        exact h1
      obtain ⟨hp0, HV⟩ := hR.out.yes hrdF
      subst hp0
      obtain ⟨v, hv⟩ : ∃ v, b = v := ⟨_, rfl⟩
      subst hv
      obtain ⟨v, hv⟩ : ∃ v, b = v := ⟨_, rfl⟩
      subst hv
      have HBF := Lib.hid hfa.out.bk
      have q0 := HBF.out.cell 0
      have q1 := HBF.out.cell 1
      have q2 := HBF.out.cell 2
      have hgf := HBF.out.lt
      have ero := HRwo.out.cell 0
      have ero1 := HRwo.out.cell 1
      have ero2 := HRwo.out.cell 2
      have fro := HRwo.out.frozen 0
      have fro1 := HRwo.out.frozen 1
      have fro2 := HRwo.out.frozen 2
      have hgro := HRwo.out.lt
      have hn2 : ¬ w2.heap.size = w.heap.size := by omega
      clear hrdF
      go_wp2_with fail
      refine wp_region_held_drew (S := (fun w' => (∀ kb ko, kb < wo.heap.size → ¬ kb = w.heap.size → w'.cell? ⟨kb, ko, none⟩ = wo.cell? ⟨kb, ko, none⟩) ∧ wo.heap.size ≤ w'.heap.size ∧ Below w.heap.size wo w')) (by kernel_rfl) ?_ (fun hHeld => ?_)
      · (try dsimp only); exact S6.mk ((Below.refl _ _).drew) (by omega)
      first | (refine take_on (i := 0) (v := ?_) rfl (by kernel_rfl) (by kernel_rfl) (by kernel_rfl) (fun _ _ _ h => h) rfl ?_ (by assumption) ?_; rotate_left; · (intro w' hSw; (try dsimp only at hSw); go_simp; (try with_reducible rfl))) | (refine take_off (i := 0) rfl (by kernel_rfl) (by kernel_rfl) (by kernel_rfl) (fun _ _ _ h => h) rfl (by assumption) ?_)
      (try simp only [Act.put, List.setIfInBounds_toArray, List.set_cons_zero, List.set_cons_succ])
      refine wpAnyH_ready (rs := [1]) (by kernel_rfl) (by simp) ?_
      refine AllReadyH.cons rfl (fun K hK => ?_) AllReadyH.nil
      rw [if_pos (by rfl)]
      go_simp
      go_at_call 54
      refine (sOk_L w2.heap.size f p' b wo.drew (FBox.of_bk HBF.out) (hfa.out.mine.drew.rd) hpl.out HPS.out HPT.out HV).mono ?_
      rintro e w5 ⟨rfl, hb5⟩
      have hB5 : Below wo.heap.size wo w5 := Below.next (by go_grown) hb5
      have HRw5 := Lib.hid (HRwo.out.next hB5)
      have er0 := HRw5.out.cell 0
      have er1 := HRw5.out.cell 1
      have er2 := HRw5.out.cell 2
      have fr0 := HRw5.out.frozen 0
      have fr1 := HRw5.out.frozen 1
      have fr2 := HRw5.out.frozen 2
      have hgr5 := HRw5.out.lt
      have HM5 := Lib.hid (hfa.out.mine.next hB5)
      have hW5 : Below w.heap.size w w5 := hW0.trans (hB5.mono (by omega))
      refine hK.out _ _ ?_ (fun hHeld2 => ?_)
      · (try dsimp only); exact S6.mk hB5 (by omega)
      clear hK K hHeld; have hHeld := hHeld2; clear hHeld2; (try simp only [Act.put, List.setIfInBounds_toArray, List.set_cons_zero, List.set_cons_succ])
      refine wpAnyH_ready (rs := [2]) (by kernel_rfl) (by simp) ?_
      refine AllReadyH.cons rfl (fun K hK => ?_) AllReadyH.nil
      rw [if_pos (by rfl)]
      go_simp
      refine hK.out _ _ ?_ (fun hHeld2 => ?_)
      · (try dsimp only); exact S6.store3 hHeld _ _ _
      clear hK K hHeld; have hHeld := hHeld2; clear hHeld2; (try simp only [Act.put, List.setIfInBounds_toArray, List.set_cons_zero, List.set_cons_succ])
      first | (refine take_on (i := 3) (v := ?_) rfl (by kernel_rfl) (by kernel_rfl) (by kernel_rfl) (fun _ _ _ h => h) rfl ?_ (by assumption) ?_; rotate_left; · (intro w' hSw; (try dsimp only at hSw); go_simp; (try with_reducible rfl))) | (refine take_off (i := 3) rfl (by kernel_rfl) (by kernel_rfl) (by kernel_rfl) (fun _ _ _ h => h) rfl (by assumption) ?_)
      (try simp only [Act.put, List.setIfInBounds_toArray, List.set_cons_zero, List.set_cons_succ])
      refine wpAnyH_done (by kernel_rfl) ?_ _
      clear hHeld
      go_wp2_with fail
      refine bodyPost_ret (by simp [results, Tryz.results18, go_sem, *]; try rfl) rfl ?_
      refine ⟨f, rfl, hpl.out, ?_, by have hT9 := hW5; go_grown⟩
      have h1 := ((HM5.out.set (bF := w.heap.size) (o := 0) (u := f.v1) (by omega)).set (bF := w.heap.size) (o := 1) (u := f.v2) (by omega)).set (bF := w.heap.size) (o := 2) (u := f.v3) (by omega)
      have hzz := hB5.size
      exact h1.low (by omega) (by simp [World.setCell]; omega)
set_option maxHeartbeats 2000000 in
theorem sReadFile_any (s : ByteArray) (hs : s.size ≤ 1048576) (p : FlP) (b : Bool) (hR : Hid (ResF s.data.toList p b)) (w : World) :
    Calls Tryz.prog 6 #[.string s] w fun e w' => ∃ f, e = .returned (.tuple #[.agg #[.slice f.ch.A f.ch.l.length f.ch.c, .slice f.st.A f.st.l.length f.st.c, .slice f.no.A f.no.l.length f.no.c], .bool b]) ∧ filePl f = p ∧ FileMine w' w.heap.size w'.heap.size f ∧ Below w.heap.size w w' := by
  have HRw := Lib.hid (Bk.new w #[.slice none 0 0, .slice none 0 0, .slice none 0 0] 26)
  obtain ⟨p1, b1, h1⟩ := resR_any s.data.toList
  have H1 := Lib.hid h1
  obtain ⟨hno, hyes⟩ := h1.res hR.out
  clear h1
  go_enter Tryz.func6, Tryz.ntmps6
  go_wp2_with fail
  refine (l03Read_any s hs p1 b1 H1 _).mono ?_
  rintro e w2 ⟨f, rfl, hp2, ho2, hb2⟩
  have hT2 : Below w.heap.size w w2 := Below.next (by go_grown) hb2
  have HRw2 := Lib.hid (HRw.out.next hb2)
  have er0 := HRw2.out.cell 0
  have er1 := HRw2.out.cell 1
  have er2 := HRw2.out.cell 2
  have fr0 := HRw2.out.frozen 0
  have fr1 := HRw2.out.frozen 1
  have fr2 := HRw2.out.frozen 2
  have hgr := HRw2.out.lt
  have HO := Lib.hid ho2
  have HP := Lib.hid hp2
  clear hb2 ho2 hp2
  cases b1
  · obtain ⟨hp0, hb0⟩ := hno rfl
    subst hp0; subst hb0
    clear hno hyes
    go_wp2_with fail
    refine bodyPost_ret (by simp [results, Tryz.results6, go_sem, *]; try rfl) rfl ?_
    exact ⟨⟨⟨none, 0, []⟩, ⟨none, 0, []⟩, ⟨none, 0, []⟩⟩, rfl, rfl, FileMine.nil _ _ _, by have hT9 := hT2; go_grown⟩
  · obtain ⟨hp0, hb0⟩ := hyes rfl
    subst hp0; subst hb0
    clear hno hyes
    have hne : ¬ w.heap.size = w2.heap.size := by omega
    go_wp2_with fail
    refine bodyPost_ret (by simp [results, Tryz.results6, go_sem, *]; try rfl) rfl ?_
    refine ⟨f, rfl, HP.out, ?_, by have hT9 := hT2; go_grown⟩
    have h3 := HO.out
    simp only [World.size_alloc] at h3
    have h4 := (((h3.set (bF := w.heap.size) (o := 0) (u := f.v1) (by omega)).set (bF := w.heap.size) (o := 1) (u := f.v2) (by omega)).set (bF := w.heap.size) (o := 2) (u := f.v3) (by omega)).alloc (.cells #[f.v1, f.v2, f.v3] 26)
    exact h4.low (by omega) (by simp [World.setCell])
end Go.Proofs.YtmdmjnhebbhjbaaGreatDoor
