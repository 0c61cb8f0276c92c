/-
  A compressed ink read back: the walk of the reference.
-/
import Derived.Test.YtinlhigpmchiaaaGreatDoorDcE
import Derived.Test.YtinlhigpmchiaaaGreatDoorDcSs
namespace Go.Proofs.YtinlhigpmchiaaaGreatDoor
set_option linter.unusedSimpArgs false
set_option linter.unusedVariables false
set_option maxRecDepth 20000
open Go.RowKit
open Go.ChangeShapes Go.WideShapes Go.Deep Go.Joins

set_option maxHeartbeats 16000000 in
theorem sdec_main (s : ByteArray) (hs : s.size ≤ 1048576) (P : List (List Pt)) (code : Int) (N : Nat) (hR : Hid (decS s.data.toList = (P, code))) (hN : Hid (P.length = N)) (w : World)
    (h : ¬ s.data.toList.length < 5) (h1 : s.data.toList.take 2 = [73, 75]) (h3 : csum (s.data.toList.take (s.data.toList.length - 2)) = sumD s.data.toList) :
    Calls Tryz.prog 4 #[.string s] w fun e w' => ∃ (A2 : Option Addr) (c2 : Nat) (T : List St), e = .returned (.tuple #[.agg #[.slice A2 N c2], .int .i64 code]) ∧ ptsOf T = P ∧ InkOwn w' w.heap.size w'.heap.size (.slice A2 N c2) T ∧ Below w.heap.size w w' := by
  have hl : s.data.toList.length = s.size := Array.length_toList
  have HSAY := Lib.hid (decS_say h h1 h3)
  have hsz : ¬ (s.size : Int) < 5 := by omega
  have hpre : ((s.extract 0 2).toList == [73, 75]) = true := by
    rw [ByteArray.toList_eq, head_list]
    simpa using h1
  obtain ⟨n, hn⟩ : ∃ n, s.size = n + 2 := ⟨s.size - 2, by omega⟩
  obtain ⟨n1, hn1e⟩ : ∃ n1, n + 1 = n1 := ⟨_, rfl⟩
  have hn0 : n < s.size := by omega
  have hn1 : n1 < s.size := by omega
  rw [hl, hn, Nat.add_sub_cancel, sum_is s hn hn1e hn0 hn1] at h3
  have h4 : (s.size : Int) - 2 = (n : Int) := by omega
  have h5 : (s.size : Int) - 1 = (n1 : Int) := by omega
  have hi0 : (n : Int) < (s.size : Int) := by omega
  have hi1 : (n1 : Int) < (s.size : Int) := by omega
  have hj0 : (0 : Int) ≤ (n : Int) := by omega
  have hj1 : (0 : Int) ≤ (n1 : Int) := by omega
  have hx0 : s[n].toNat < 256 := s[n].toNat_lt
  have hx1 : s[n1].toNat < 256 := s[n1].toNat_lt
  have HSN := Lib.hid hn
  have hcs := fun w hz => l04Sum_any (s.extract 0 n) w hz
  rw [head_list] at hcs
  obtain ⟨cs, hcs0⟩ : ∃ cs, csum (s.data.toList.take n) = cs := ⟨_, rfl⟩
  rw [hcs0] at hcs h3
  have hsz2 : (s.extract 0 n).size ≤ 1048576 := by simp; omega
  have HCS := Lib.hid (fun w => hcs w hsz2)
  have hn2 : 2 ≤ n := by omega
  have hR0 := Bk.new w #[.slice none 0 0] 24
  have HR0 := Lib.hid hR0
  have hcs2 : cs = (s[n].toNat : Int) * 256 + (s[n1].toNat : Int) := h3
  subst hcs2
  have hall0 := bitsD_all s.data.toList
  have hbsz := bits_sz hs
  obtain ⟨B, hB0⟩ : ∃ B, bitsD s.data.toList = B := ⟨_, rfl⟩
  have HUB := Lib.hid (sUnpack_is s (s.extract 2 n) B (body_list s hn) hB0 (by simp; omega))
  rw [hB0] at hall0 hbsz HSAY
  have HBA : Hid (B.data.toList.all isBit = true) := hall0
  have HBS : Hid (B.size ≤ 8388608) := hbsz
  clear hcs hsz2 hcs0 hl h h1 hn hn1e hR0 h3  hall0 hbsz hB0
  go_enter Tryz.func4, Tryz.ntmps4
  go_wp2_with fail
  go_quiet ((go_at_call 9; first | with_reducible exact quiet_mine (HCS.out _) | with_reducible exact quiet_mine2 (HCS.out _)))
  go_wp2_with fail
  refine (HUB.out _).mono ?_
  rintro e w3 ⟨rfl, hb3⟩
  have hT3 : Below w.heap.size w w3 := Below.next (below_drewN ((Below.refl _ _).alloc (Nat.le_refl _) _) _) hb3
  have HR3 := Lib.hid ((HR0.out.below (below_drewN (Below.refl _ _) _) HR0.out.lt).next hb3)
  have hz3 := HR3.out.lt
  clear hb3
  have hbk0 := (Bk.new w3 #[.string B, .int .i64 0, .bool false] 34).alloc (.cells #[.slice none 0 0] 24)
  have HBK0 : Hid (Bk ((w3.alloc (.cells #[.string B, .int .i64 0, .bool false] 34)).alloc (.cells #[.slice none 0 0] 24)) w3.heap.size 34 #[.string B, .int .i64 ((0 : Nat) : Int), .bool false]) := hbk0
  have HNM := Lib.hid (snum_any w3.heap.size B 0 8 false ((w3.alloc (.cells #[.string B, .int .i64 0, .bool false] 34)).alloc (.cells #[.slice none 0 0] 24)) HBK0.out HBS.out HBA (Nat.zero_le _) (by omega))
  have HI0 : Hid (Bk ((w3.alloc (.cells #[.string B, .int .i64 0, .bool false] 34)).alloc (.cells #[.slice none 0 0] 24)) (w3.heap.size + 1) 24 #[.slice none 0 0]) := Bk.new1 w3 _ _ _
  clear hbk0 HBK0
  go_wp2_with fail
  refine HNM.out.mono ?_
  rintro e w6 ⟨v, p1, g1, rfl, hb6, hv, hp1, hA6, hG6⟩
  have hz6 := hA6.size
  (try simp only [World.size_alloc] at hz6)
  have HB6 := Lib.hid hb6
  have HI6 := Lib.hid (hA6.bk HI0.out (by simp only [World.size_alloc]; omega) (by omega))
  have HW6 : Hid (Below w3.heap.size w3 w6) := (((Below.refl _ w3).alloc (Nat.le_refl _) _).alloc (by simp only [World.size_alloc]; omega) _).trans (hA6.below (Nat.le_refl _) (by simp only [World.size_alloc]; omega))
  have HST0 : Hid (g1 = false ∧ numO B 0 8 = some (v, p1) ∧ sksO colS B p1 0 = some (ptsOf [], p1) ∨ g1 = true ∧ ikO colS B = none) := by
    rcases hG6 with ⟨_, h1, h2⟩ | ⟨h1, h2⟩
    · exact .inl ⟨h1, h2, rfl⟩
    · exact .inr ⟨h1, ik_no (h2.resolve_left (by decide))⟩
  clear hb6 hA6 hG6 HNM HI0
  go_wp2_with fail
  go_loopw [7] (fun i wr => ∃ (c j q : Nat) (f : Bool) (u : Value) (T : List St), c + j = v ∧ i = .int .i64 (c : Int) ∧ Bk wr w3.heap.size 34 #[.string B, .int .i64 (q : Int), .bool f] ∧ q ≤ B.size ∧ Bk wr (w3.heap.size + 1) 24 #[u] ∧ Hid (T.length = j) ∧ Hid (∀ x ∈ T, x.l.length ≤ 255) ∧ Hid (InkOwn wr ((w3.heap.size + 1) + 1) wr.heap.size u T) ∧ Hid (f = false ∧ numO B 0 8 = some (v, p1) ∧ sksO colS B p1 j = some (ptsOf T, q) ∨ f = true ∧ ikO colS B = none) ∧ Hid (Below w3.heap.size w3 wr)) (fun i _ => (intOf i).toNat)
  case atStart => exact ⟨v, 0, p1, g1, .slice none 0 0, [], by omega, rfl, HB6.out, hp1, HI6.out, rfl, fun x hx => (by cases hx), InkOwn.nil _ _ _, HST0.out, HW6.out⟩
  case round =>
    obtain ⟨c, j, q, f, u, T, hcj, rfl, hbr, hq, hbi, TL, HEA, HIN, HSTF, hW⟩ := hrel
    have hWs := hW.out.size
    have hgi := hbi.lt
    have hgr := hbr.lt
    have HBI := Lib.hid hbi
    have hRr := HR3.out.below hW.out hz3
    have HRR := Lib.hid hRr
    have hltR := hRr.lt
    have hTr : Below w.heap.size w wr := Below.next hT3 (hW.out.mono (Nat.le_refl _))
    obtain ⟨⟨c0, f0⟩, ⟨c1, f1⟩, c2, f2⟩ := bk3 hbr
    obtain ⟨ei, fi⟩ := bk1 hbi
    cases f
    · obtain ⟨_, hnum, hst⟩ | ⟨h9, _⟩ := HSTF.out
      rotate_left
      · cases h9
      have HST := Lib.hid hst
      have HNUM := Lib.hid hnum
      have HBR := Lib.hid hbr
      clear hst hnum HSTF hbr hbi hRr
      by_cases hc0 : 0 < c
      · have hci : (c : Int) > 0 := by omega
        go_wp2_with fail
        refine wp_region_held_drew (S := (fun w' => Below w3.heap.size wr w')) (by kernel_rfl) ?_ (fun hHeld => ?_)
        · (try dsimp only); exact (Below.refl _ _).drew
        first | (refine take_on (i := 0) (v := ?_) rfl (by kernel_rfl) (by kernel_rfl) (by kernel_rfl) (fun _ _ _ h => h) rfl ?_ (by assumption) ?_; rotate_left; · (intro w' hSw; (try dsimp only at hSw); go_simp; (try with_reducible rfl))) | (refine take_off (i := 0) rfl (by kernel_rfl) (by kernel_rfl) (by kernel_rfl) (fun _ _ _ h => h) rfl (by assumption) ?_)
        (try simp only [Act.put, List.setIfInBounds_toArray, List.set_cons_zero, List.set_cons_succ])
        first | (refine take_on (i := 2) (v := ?_) rfl (by kernel_rfl) (by kernel_rfl) (by kernel_rfl) (fun _ _ _ h => h) rfl ?_ (by assumption) ?_; rotate_left; · (intro w' hSw; (try dsimp only at hSw); go_simp; (try with_reducible rfl))) | (refine take_off (i := 2) rfl (by kernel_rfl) (by kernel_rfl) (by kernel_rfl) (fun _ _ _ h => h) rfl (by assumption) ?_)
        (try simp only [Act.put, List.setIfInBounds_toArray, List.set_cons_zero, List.set_cons_succ])
        refine wpAnyH_ready (rs := [1, 3]) (by kernel_rfl) (by simp) ?_
        refine AllReadyH.cons rfl (fun K hK => ?_) (AllReadyH.cons rfl (fun K hK => ?_) (AllReadyH.nil))
        · rw [if_pos (by rfl)]
          go_simp
          refine hK.out _ _ ?_ (fun hHeld2 => ?_)
          · (try dsimp only); exact hHeld
          clear hK K hHeld; have hHeld := hHeld2; clear hHeld2; (try simp only [Act.put, List.setIfInBounds_toArray, List.set_cons_zero, List.set_cons_succ])
          refine wpAnyH_ready (rs := [3]) (by kernel_rfl) (by simp) ?_
          refine AllReadyH.cons rfl (fun K hK => ?_) AllReadyH.nil
          rw [if_pos (by rfl)]
          go_simp
          go_at_call 12
          have hbrd : Bk wr.drew w3.heap.size 34 #[.string B, .int .i64 (q : Int), .bool false] := HBR.out
          refine (sstroke_any w3.heap.size B q false wr.drew hbrd HBS.out HBA hq).mono ?_
          rintro e w4 ⟨A4, c4, N4, L4, q4, g4, rfl, hN4, hN255, ho4, hb4, hq4, hA4, hG4⟩
          have hA4' : Apart w3.heap.size wr.heap.size wr w4 := (Apart.refl w3.heap.size wr.heap.size wr).drew.trans hA4
          have hz4 : wr.heap.size ≤ w4.heap.size := hA4'.size
          have HB4 := Lib.hid hb4
          have HG4 := Lib.hid hG4
          have HA4 := Lib.hid hA4'
          have hbi4 : Bk w4 (w3.heap.size + 1) 24 #[u] := hA4'.bk HBI.out (by omega) (by omega)
          have HBI4 := Lib.hid hbi4
          obtain ⟨e4, f4⟩ := bk1 hbi4
          have hgl4 := hbi4.lt
          obtain ⟨t, ht⟩ : ∃ t : St, t = ⟨A4, c4, L4⟩ := ⟨_, rfl⟩
          have htv : t.val = .slice A4 N4 c4 := by rw [ht]; simp [St.val, hN4]
          have htl : t.l = L4 := by rw [ht]
          have HTV := Lib.hid htv
          have HTL := Lib.hid htl
          have HO4 : Hid (Own ptC 58 3 w4 wr.heap.size (.slice A4 N4 c4) L4) := ho4
          have HIN4 : Hid (InkOwn w4 ((w3.heap.size + 1) + 1) wr.heap.size u T) := HIN.out.keep fun k h1 h2 _ => hA4'.block k h2 (by omega)
          have hL255 : L4.length ≤ 255 := by omega
          have HL255 := Lib.hid hL255
          clear ht htv htl ho4 hb4 hA4 hA4' hG4 hbi4 hL255 hbrd
          refine hK.out _ _ ?_ (fun hHeld2 => ?_)
          · (try dsimp only); exact HA4.out.below (Nat.le_refl _) (by omega)
          clear hK K hHeld; have hHeld := hHeld2; clear hHeld2; (try simp only [Act.put, List.setIfInBounds_toArray, List.set_cons_zero, List.set_cons_succ])
          refine wpAnyH_ready (rs := [4]) (by kernel_rfl) (by simp) ?_
          refine AllReadyH.cons rfl (fun K hK => ?_) AllReadyH.nil
          rw [if_pos (by rfl)]
          go_simp
          refine hK.out _ _ ?_ (fun hHeld2 => ?_)
          · (try dsimp only); exact (show Below w3.heap.size wr w4 from HA4.out.below (Nat.le_refl _) (by omega)).alloc (by omega) _
          clear hK K hHeld; have hHeld := hHeld2; clear hHeld2; (try simp only [Act.put, List.setIfInBounds_toArray, List.set_cons_zero, List.set_cons_succ])
          refine wpAnyH_ready (rs := [5]) (by kernel_rfl) (by simp) ?_
          refine AllReadyH.cons rfl (fun K hK => ?_) AllReadyH.nil
          refine step_push elem_sk (by rfl) (.tmp 58) (.tmp 61) 22 (by rfl) Tryz.underlying22 ((w3.heap.size + 1) + 1) u T t (by rfl) (HIN4.out.row.alloc _) j TL.out w4.heap.size 1 (by rfl) (fun i u hu => ((Bk.new w4 #[.slice A4 N4 c4] 38).cell i).trans (by have h1 := HTV.out; unfold skC at hu; rw [h1] at hu; simpa using hu)) (by unfold maxLen; omega) (by omega) (by simp only [World.size_alloc]; omega) ?_
          intro g5 cap5 w5 hown5 hgrow5 hat5 hlt5 hkeep5
          have hbk5 : Bk w5 (w3.heap.size + 1) 24 #[u] := (hgrow5.block _ (by simp only [World.size_alloc]; omega) (fun e => by have h2 := (HIN4.out.row.lt _ e.symm).1; omega)).trans (HBI4.out.alloc _)
          obtain ⟨e5, f5⟩ := bk1 hbk5
          have hz5 := hgrow5.size
          simp only [World.size_alloc] at hz5
          have hgl5 := hbk5.lt
          refine hK.out _ _ ?_ (fun hHeld2 => ?_)
          · (try dsimp only); exact ((show Below w3.heap.size wr w4 from HA4.out.below (Nat.le_refl _) (by omega)).alloc (by omega) _).grown hgrow5 (by simp only [World.size_alloc]; omega) (fun k hk => by have h2 := (HIN4.out.row.lt k hk).1; omega)
          clear hK K hHeld; have hHeld := hHeld2; clear hHeld2; (try simp only [Act.put, List.setIfInBounds_toArray, List.set_cons_zero, List.set_cons_succ])
          first | (refine take_on (i := 6) (v := ?_) rfl (by kernel_rfl) (by kernel_rfl) (by kernel_rfl) (fun _ _ _ h => h) rfl ?_ (by assumption) ?_; rotate_left; · (intro w' hSw; (try dsimp only at hSw); go_simp; (try with_reducible rfl))) | (refine take_off (i := 6) rfl (by kernel_rfl) (by kernel_rfl) (by kernel_rfl) (fun _ _ _ h => h) rfl (by assumption) ?_)
          (try simp only [Act.put, List.setIfInBounds_toArray, List.set_cons_zero, List.set_cons_succ])
          refine wpAnyH_ready (rs := [7]) (by kernel_rfl) (by simp) ?_
          refine AllReadyH.cons rfl (fun K hK => ?_) AllReadyH.nil
          rw [if_pos (by rfl)]
          go_simp
          refine hK.out _ _ ?_ (fun hHeld2 => ?_)
          · (try dsimp only); exact (((show Below w3.heap.size wr w4 from HA4.out.below (Nat.le_refl _) (by omega)).alloc (by omega) _).grown hgrow5 (by simp only [World.size_alloc]; omega) (fun k hk => by have h2 := (HIN4.out.row.lt k hk).1; omega)).setCell (by show w3.heap.size ≤ (w3.heap.size + 1); omega) _
          clear hK K hHeld; have hHeld := hHeld2; clear hHeld2; (try simp only [Act.put, List.setIfInBounds_toArray, List.set_cons_zero, List.set_cons_succ])
          refine wpAnyH_done (by kernel_rfl) ?_ _
          have hS : Below w3.heap.size wr _ := hHeld
          clear hHeld
          go_wp2_with fail
          go_roundw
          case rel =>
            have hink := InkOwn.push HIN4.out (t := t) (by rw [HTL.out, HTV.out]; exact HO4.out.mono (by omega)) (fun b hb => by rw [HTV.out] at hb; have h1 := (HO4.out.lt b hb).1; omega) hz4 ((Below.refl _ _).alloc (Nat.le_refl _) _) hgrow5 hat5 hlt5 hown5
            have hbr5 : Bk w5 w3.heap.size 34 #[.string B, .int .i64 (q4 : Int), .bool g4] := (hgrow5.block _ (by simp only [World.size_alloc]; omega) (fun e => by have h2 := (HIN4.out.row.lt _ e.symm).1; omega)).trans (HB4.out.alloc _)
            refine ⟨c - 1, j + 1, q4, g4, _, T ++ [t], by omega, by congr 1; omega, hbr5.other (by simp only [ne_eq]; omega) _, hq4, bk1_put hbk5, by simp [Hid, TL.out], ?_, ?_, ?_, hW.out.trans hS⟩
            · intro x hx
              rcases List.mem_append.1 hx with h1 | h1
              · exact HEA.out x h1
              · rw [List.mem_singleton.1 h1, HTL.out]; exact HL255.out
            · rw [Hid, setCell_size]
              exact hink.keep fun k hk _ _ => Below.heap_setCell _ _ _ _ (by simp only [ne_eq]; omega)
            · rcases HG4.out with ⟨_, h1, h2⟩ | ⟨h1, h2⟩
              · exact .inl ⟨h1, HNUM.out, by rw [ptsOf_add, HTL.out]; exact sks_good HST.out h2⟩
              · exact .inr ⟨h1, ik_bad HNUM.out (sks_bad HST.out (h2.resolve_left (by decide))) (by omega)⟩
          case measure => (simp [intOf]; try omega)
        · rw [if_pos (by rfl)]
          go_simp
          go_at_call 12
          have hbrd : Bk wr.drew w3.heap.size 34 #[.string B, .int .i64 (q : Int), .bool false] := HBR.out
          refine (sstroke_any w3.heap.size B q false wr.drew hbrd HBS.out HBA hq).mono ?_
          rintro e w4 ⟨A4, c4, N4, L4, q4, g4, rfl, hN4, hN255, ho4, hb4, hq4, hA4, hG4⟩
          have hA4' : Apart w3.heap.size wr.heap.size wr w4 := (Apart.refl w3.heap.size wr.heap.size wr).drew.trans hA4
          have hz4 : wr.heap.size ≤ w4.heap.size := hA4'.size
          have HB4 := Lib.hid hb4
          have HG4 := Lib.hid hG4
          have HA4 := Lib.hid hA4'
          have hbi4 : Bk w4 (w3.heap.size + 1) 24 #[u] := hA4'.bk HBI.out (by omega) (by omega)
          have HBI4 := Lib.hid hbi4
          obtain ⟨e4, f4⟩ := bk1 hbi4
          have hgl4 := hbi4.lt
          obtain ⟨t, ht⟩ : ∃ t : St, t = ⟨A4, c4, L4⟩ := ⟨_, rfl⟩
          have htv : t.val = .slice A4 N4 c4 := by rw [ht]; simp [St.val, hN4]
          have htl : t.l = L4 := by rw [ht]
          have HTV := Lib.hid htv
          have HTL := Lib.hid htl
          have HO4 : Hid (Own ptC 58 3 w4 wr.heap.size (.slice A4 N4 c4) L4) := ho4
          have HIN4 : Hid (InkOwn w4 ((w3.heap.size + 1) + 1) wr.heap.size u T) := HIN.out.keep fun k h1 h2 _ => hA4'.block k h2 (by omega)
          have hL255 : L4.length ≤ 255 := by omega
          have HL255 := Lib.hid hL255
          clear ht htv htl ho4 hb4 hA4 hA4' hG4 hbi4 hL255 hbrd
          refine hK.out _ _ ?_ (fun hHeld2 => ?_)
          · (try dsimp only); exact HA4.out.below (Nat.le_refl _) (by omega)
          clear hK K hHeld; have hHeld := hHeld2; clear hHeld2; (try simp only [Act.put, List.setIfInBounds_toArray, List.set_cons_zero, List.set_cons_succ])
          refine wpAnyH_ready (rs := [1, 4]) (by kernel_rfl) (by simp) ?_
          refine AllReadyH.cons rfl (fun K hK => ?_) (AllReadyH.cons rfl (fun K hK => ?_) (AllReadyH.nil))
          · rw [if_pos (by rfl)]
            go_simp
            refine hK.out _ _ ?_ (fun hHeld2 => ?_)
            · (try dsimp only); exact hHeld
            clear hK K hHeld; have hHeld := hHeld2; clear hHeld2; (try simp only [Act.put, List.setIfInBounds_toArray, List.set_cons_zero, List.set_cons_succ])
            refine wpAnyH_ready (rs := [4]) (by kernel_rfl) (by simp) ?_
            refine AllReadyH.cons rfl (fun K hK => ?_) AllReadyH.nil
            rw [if_pos (by rfl)]
            go_simp
            refine hK.out _ _ ?_ (fun hHeld2 => ?_)
            · (try dsimp only); exact (show Below w3.heap.size wr w4 from HA4.out.below (Nat.le_refl _) (by omega)).alloc (by omega) _
            clear hK K hHeld; have hHeld := hHeld2; clear hHeld2; (try simp only [Act.put, List.setIfInBounds_toArray, List.set_cons_zero, List.set_cons_succ])
            refine wpAnyH_ready (rs := [5]) (by kernel_rfl) (by simp) ?_
            refine AllReadyH.cons rfl (fun K hK => ?_) AllReadyH.nil
            refine step_push elem_sk (by rfl) (.tmp 58) (.tmp 61) 22 (by rfl) Tryz.underlying22 ((w3.heap.size + 1) + 1) u T t (by rfl) (HIN4.out.row.alloc _) j TL.out w4.heap.size 1 (by rfl) (fun i u hu => ((Bk.new w4 #[.slice A4 N4 c4] 38).cell i).trans (by have h1 := HTV.out; unfold skC at hu; rw [h1] at hu; simpa using hu)) (by unfold maxLen; omega) (by omega) (by simp only [World.size_alloc]; omega) ?_
            intro g5 cap5 w5 hown5 hgrow5 hat5 hlt5 hkeep5
            have hbk5 : Bk w5 (w3.heap.size + 1) 24 #[u] := (hgrow5.block _ (by simp only [World.size_alloc]; omega) (fun e => by have h2 := (HIN4.out.row.lt _ e.symm).1; omega)).trans (HBI4.out.alloc _)
            obtain ⟨e5, f5⟩ := bk1 hbk5
            have hz5 := hgrow5.size
            simp only [World.size_alloc] at hz5
            have hgl5 := hbk5.lt
            refine hK.out _ _ ?_ (fun hHeld2 => ?_)
            · (try dsimp only); exact ((show Below w3.heap.size wr w4 from HA4.out.below (Nat.le_refl _) (by omega)).alloc (by omega) _).grown hgrow5 (by simp only [World.size_alloc]; omega) (fun k hk => by have h2 := (HIN4.out.row.lt k hk).1; omega)
            clear hK K hHeld; have hHeld := hHeld2; clear hHeld2; (try simp only [Act.put, List.setIfInBounds_toArray, List.set_cons_zero, List.set_cons_succ])
            first | (refine take_on (i := 6) (v := ?_) rfl (by kernel_rfl) (by kernel_rfl) (by kernel_rfl) (fun _ _ _ h => h) rfl ?_ (by assumption) ?_; rotate_left; · (intro w' hSw; (try dsimp only at hSw); go_simp; (try with_reducible rfl))) | (refine take_off (i := 6) rfl (by kernel_rfl) (by kernel_rfl) (by kernel_rfl) (fun _ _ _ h => h) rfl (by assumption) ?_)
            (try simp only [Act.put, List.setIfInBounds_toArray, List.set_cons_zero, List.set_cons_succ])
            refine wpAnyH_ready (rs := [7]) (by kernel_rfl) (by simp) ?_
            refine AllReadyH.cons rfl (fun K hK => ?_) AllReadyH.nil
            rw [if_pos (by rfl)]
            go_simp
            refine hK.out _ _ ?_ (fun hHeld2 => ?_)
            · (try dsimp only); exact (((show Below w3.heap.size wr w4 from HA4.out.below (Nat.le_refl _) (by omega)).alloc (by omega) _).grown hgrow5 (by simp only [World.size_alloc]; omega) (fun k hk => by have h2 := (HIN4.out.row.lt k hk).1; omega)).setCell (by show w3.heap.size ≤ (w3.heap.size + 1); omega) _
            clear hK K hHeld; have hHeld := hHeld2; clear hHeld2; (try simp only [Act.put, List.setIfInBounds_toArray, List.set_cons_zero, List.set_cons_succ])
            refine wpAnyH_done (by kernel_rfl) ?_ _
            have hS : Below w3.heap.size wr _ := hHeld
            clear hHeld
            go_wp2_with fail
            go_roundw
            case rel =>
              have hink := InkOwn.push HIN4.out (t := t) (by rw [HTL.out, HTV.out]; exact HO4.out.mono (by omega)) (fun b hb => by rw [HTV.out] at hb; have h1 := (HO4.out.lt b hb).1; omega) hz4 ((Below.refl _ _).alloc (Nat.le_refl _) _) hgrow5 hat5 hlt5 hown5
              have hbr5 : Bk w5 w3.heap.size 34 #[.string B, .int .i64 (q4 : Int), .bool g4] := (hgrow5.block _ (by simp only [World.size_alloc]; omega) (fun e => by have h2 := (HIN4.out.row.lt _ e.symm).1; omega)).trans (HB4.out.alloc _)
              refine ⟨c - 1, j + 1, q4, g4, _, T ++ [t], by omega, by congr 1; omega, hbr5.other (by simp only [ne_eq]; omega) _, hq4, bk1_put hbk5, by simp [Hid, TL.out], ?_, ?_, ?_, hW.out.trans hS⟩
              · intro x hx
                rcases List.mem_append.1 hx with h1 | h1
                · exact HEA.out x h1
                · rw [List.mem_singleton.1 h1, HTL.out]; exact HL255.out
              · rw [Hid, setCell_size]
                exact hink.keep fun k hk _ _ => Below.heap_setCell _ _ _ _ (by simp only [ne_eq]; omega)
              · rcases HG4.out with ⟨_, h1, h2⟩ | ⟨h1, h2⟩
                · exact .inl ⟨h1, HNUM.out, by rw [ptsOf_add, HTL.out]; exact sks_good HST.out h2⟩
                · exact .inr ⟨h1, ik_bad HNUM.out (sks_bad HST.out (h2.resolve_left (by decide))) (by omega)⟩
            case measure => (simp [intOf]; try omega)
          · rw [if_pos (by rfl)]
            go_simp
            refine hK.out _ _ ?_ (fun hHeld2 => ?_)
            · (try dsimp only); exact (show Below w3.heap.size wr w4 from HA4.out.below (Nat.le_refl _) (by omega)).alloc (by omega) _
            clear hK K hHeld; have hHeld := hHeld2; clear hHeld2; (try simp only [Act.put, List.setIfInBounds_toArray, List.set_cons_zero, List.set_cons_succ])
            refine wpAnyH_ready (rs := [1]) (by kernel_rfl) (by simp) ?_
            refine AllReadyH.cons rfl (fun K hK => ?_) AllReadyH.nil
            rw [if_pos (by rfl)]
            go_simp
            refine hK.out _ _ ?_ (fun hHeld2 => ?_)
            · (try dsimp only); exact hHeld
            clear hK K hHeld; have hHeld := hHeld2; clear hHeld2; (try simp only [Act.put, List.setIfInBounds_toArray, List.set_cons_zero, List.set_cons_succ])
            refine wpAnyH_ready (rs := [5]) (by kernel_rfl) (by simp) ?_
            refine AllReadyH.cons rfl (fun K hK => ?_) AllReadyH.nil
            refine step_push elem_sk (by rfl) (.tmp 58) (.tmp 61) 22 (by rfl) Tryz.underlying22 ((w3.heap.size + 1) + 1) u T t (by rfl) (HIN4.out.row.alloc _) j TL.out w4.heap.size 1 (by rfl) (fun i u hu => ((Bk.new w4 #[.slice A4 N4 c4] 38).cell i).trans (by have h1 := HTV.out; unfold skC at hu; rw [h1] at hu; simpa using hu)) (by unfold maxLen; omega) (by omega) (by simp only [World.size_alloc]; omega) ?_
            intro g5 cap5 w5 hown5 hgrow5 hat5 hlt5 hkeep5
            have hbk5 : Bk w5 (w3.heap.size + 1) 24 #[u] := (hgrow5.block _ (by simp only [World.size_alloc]; omega) (fun e => by have h2 := (HIN4.out.row.lt _ e.symm).1; omega)).trans (HBI4.out.alloc _)
            obtain ⟨e5, f5⟩ := bk1 hbk5
            have hz5 := hgrow5.size
            simp only [World.size_alloc] at hz5
            have hgl5 := hbk5.lt
            refine hK.out _ _ ?_ (fun hHeld2 => ?_)
            · (try dsimp only); exact ((show Below w3.heap.size wr w4 from HA4.out.below (Nat.le_refl _) (by omega)).alloc (by omega) _).grown hgrow5 (by simp only [World.size_alloc]; omega) (fun k hk => by have h2 := (HIN4.out.row.lt k hk).1; omega)
            clear hK K hHeld; have hHeld := hHeld2; clear hHeld2; (try simp only [Act.put, List.setIfInBounds_toArray, List.set_cons_zero, List.set_cons_succ])
            first | (refine take_on (i := 6) (v := ?_) rfl (by kernel_rfl) (by kernel_rfl) (by kernel_rfl) (fun _ _ _ h => h) rfl ?_ (by assumption) ?_; rotate_left; · (intro w' hSw; (try dsimp only at hSw); go_simp; (try with_reducible rfl))) | (refine take_off (i := 6) rfl (by kernel_rfl) (by kernel_rfl) (by kernel_rfl) (fun _ _ _ h => h) rfl (by assumption) ?_)
            (try simp only [Act.put, List.setIfInBounds_toArray, List.set_cons_zero, List.set_cons_succ])
            refine wpAnyH_ready (rs := [7]) (by kernel_rfl) (by simp) ?_
            refine AllReadyH.cons rfl (fun K hK => ?_) AllReadyH.nil
            rw [if_pos (by rfl)]
            go_simp
            refine hK.out _ _ ?_ (fun hHeld2 => ?_)
            · (try dsimp only); exact (((show Below w3.heap.size wr w4 from HA4.out.below (Nat.le_refl _) (by omega)).alloc (by omega) _).grown hgrow5 (by simp only [World.size_alloc]; omega) (fun k hk => by have h2 := (HIN4.out.row.lt k hk).1; omega)).setCell (by show w3.heap.size ≤ (w3.heap.size + 1); omega) _
            clear hK K hHeld; have hHeld := hHeld2; clear hHeld2; (try simp only [Act.put, List.setIfInBounds_toArray, List.set_cons_zero, List.set_cons_succ])
            refine wpAnyH_done (by kernel_rfl) ?_ _
            have hS : Below w3.heap.size wr _ := hHeld
            clear hHeld
            go_wp2_with fail
            go_roundw
            case rel =>
              have hink := InkOwn.push HIN4.out (t := t) (by rw [HTL.out, HTV.out]; exact HO4.out.mono (by omega)) (fun b hb => by rw [HTV.out] at hb; have h1 := (HO4.out.lt b hb).1; omega) hz4 ((Below.refl _ _).alloc (Nat.le_refl _) _) hgrow5 hat5 hlt5 hown5
              have hbr5 : Bk w5 w3.heap.size 34 #[.string B, .int .i64 (q4 : Int), .bool g4] := (hgrow5.block _ (by simp only [World.size_alloc]; omega) (fun e => by have h2 := (HIN4.out.row.lt _ e.symm).1; omega)).trans (HB4.out.alloc _)
              refine ⟨c - 1, j + 1, q4, g4, _, T ++ [t], by omega, by congr 1; omega, hbr5.other (by simp only [ne_eq]; omega) _, hq4, bk1_put hbk5, by simp [Hid, TL.out], ?_, ?_, ?_, hW.out.trans hS⟩
              · intro x hx
                rcases List.mem_append.1 hx with h1 | h1
                · exact HEA.out x h1
                · rw [List.mem_singleton.1 h1, HTL.out]; exact HL255.out
              · rw [Hid, setCell_size]
                exact hink.keep fun k hk _ _ => Below.heap_setCell _ _ _ _ (by simp only [ne_eq]; omega)
              · rcases HG4.out with ⟨_, h1, h2⟩ | ⟨h1, h2⟩
                · exact .inl ⟨h1, HNUM.out, by rw [ptsOf_add, HTL.out]; exact sks_good HST.out h2⟩
                · exact .inr ⟨h1, ik_bad HNUM.out (sks_bad HST.out (h2.resolve_left (by decide))) (by omega)⟩
            case measure => (simp [intOf]; try omega)

      · obtain rfl : c = 0 := by omega
        obtain rfl : j = v := by omega
        obtain ⟨P', hP'⟩ : ∃ P', ptsOf T = P' := ⟨_, rfl⟩
        have HPT := Lib.hid hP'
        have HIK : Hid (ikO colS B = some P') := by rw [Hid, ← hP']; exact ik_yes HNUM.out HST.out
        have HEACH : ∀ x ∈ T, x.l.length ≤ 1048576 := fun x hx => Nat.le_trans (HEA.out x hx) (by omega)
        obtain ⟨A2, c9, hu, _, _, _⟩ := HIN.out.row.rd
        rw [TL.out] at hu
        subst hu
        clear hP'
        go_wp2_with fail
        have hcv := l02Ok_any (w3.heap.size + 1) 0 A2 j c9 T wr (bk1 HBI.out).1 (HIN.out.rd TL.out) HEACH (by omega)
        rw [HPT.out] at hcv
        refine hcv.mono ?_
        rintro e w7 ⟨rfl, hb7⟩
        have hT7 : Below w.heap.size w w7 := Below.next hTr hb7
        have hR7 := HRR.out.next hb7
        have hV7 := HBI.out.next hb7
        have HIN7 := Lib.hid (HIN.out.next hb7)
        obtain ⟨er, fr⟩ := bk1 hR7
        obtain ⟨ev7, fv7⟩ := bk1 hV7
        have hgr7 := hR7.lt
        have hgv7 := hV7.lt
        have hz7w := hb7.size
        clear hb7 hcv ei fi c0 c1 c2 f0 f1 f2
        cases hv9 : inkB P'
        · have h2 := hR.out
          rw [HSAY.out, HIK.out, sayD_out hv9] at h2
          obtain ⟨e1, e2⟩ : [] = P ∧ _ = code := by injection h2 with e1 e2; exact ⟨e1, e2⟩
          subst e1; subst e2
          obtain rfl : 0 = N := hN.out
          clear h2
          go_wp2_with fail
          refine bodyPost_ret (by simp [results, Tryz.results4, go_sem, *]; try rfl) rfl ?_
          first | exact ⟨none, 0, [], rfl, rfl, InkOwn.nil _ _ _, by have hT9 := hT7; go_grown⟩ | exact ⟨none, 0, rfl, [], rfl, InkOwn.nil _ _ _, by have hT9 := hT7; go_grown⟩
        · have HV := Lib.hid hv9
          have hct := l04Encode_any (w3.heap.size + 1) A2 j c9 T P' w7 (bk1 hV7).1 (HIN7.out.rd TL.out) HPT.out hv9
          obtain ⟨y, hy⟩ : ∃ y, bs (encB P') = y := ⟨_, rfl⟩
          rw [hy] at hct
          obtain ⟨v2, hv2⟩ : ∃ v2, (encB P' == s.data.toList) = v2 := ⟨_, rfl⟩
          have hys := enc_eq hy hv2
          have HV2 := Lib.hid hv2
          clear hv2 hy hv9
          go_wp2_with fail
          refine hct.mono ?_
          rintro e w8 ⟨rfl, hb8⟩
          have hT8 : Below w.heap.size w w8 := Below.next hT7 hb8
          have hR8 := hR7.next hb8
          have hV8 := hV7.next hb8
          have HIN8 := Lib.hid (HIN7.out.next hb8)
          obtain ⟨er8, fr8⟩ := bk1 hR8
          obtain ⟨ev8, fv8⟩ := bk1 hV8
          have hgr8 := hR8.lt
          have hgv8 := hV8.lt
          have hz8w := hb8.size
          clear hb8 hct ev7 fv7 er fr
          cases v2
          · have h2 := hR.out
            rw [HSAY.out, HIK.out, sayD_other (fun e => by have h9 := HV2.out; rw [e] at h9; simp at h9)] at h2
            obtain ⟨e1, e2⟩ : [] = P ∧ _ = code := by injection h2 with e1 e2; exact ⟨e1, e2⟩
            subst e1; subst e2
            obtain rfl : 0 = N := hN.out
            clear h2
            go_wp2_with fail
            refine bodyPost_ret (by simp [results, Tryz.results4, go_sem, *]; try rfl) rfl ?_
            first | exact ⟨none, 0, [], rfl, rfl, InkOwn.nil _ _ _, by have hT9 := hT8; go_grown⟩ | exact ⟨none, 0, rfl, [], rfl, InkOwn.nil _ _ _, by have hT9 := hT8; go_grown⟩
          · have h2 := hR.out
            rw [HSAY.out, HIK.out, sayD_yes HV.out (by have h9 := HV2.out; simpa using h9)] at h2
            obtain ⟨e1, e2⟩ : P' = P ∧ _ = code := by injection h2 with e1 e2; exact ⟨e1, e2⟩
            subst e1; subst e2
            obtain rfl : j = N := by rw [← hN.out, ← HPT.out, ptsOf_len]; exact TL.out.symm
            clear h2
            go_wp2_with fail
            refine bodyPost_ret (by simp [results, Tryz.results4, go_sem, *]; try rfl) rfl ?_
            first | refine ⟨A2, c9, T, rfl, HPT.out, ?_, by have hT9 := hT8; go_grown⟩ | refine ⟨A2, c9, rfl, T, HPT.out, ?_, by have hT9 := hT8; go_grown⟩
            rw [setCell_size]
            exact ((HIN8.out.keep fun k hk _ _ => Below.heap_setCell _ _ _ _ (by simp only [ne_eq]; omega)).low (by omega)).upto3 (by omega)
    · have HNO : Hid (ikO colS B = none) := by
        rcases HSTF.out with ⟨h9, _⟩ | ⟨_, h9⟩
        · cases h9
        · exact h9
      obtain ⟨r0, fr0⟩ := bk1 hRr
      clear HSTF
      by_cases hc0 : 0 < c
      · have hci : (c : Int) > 0 := by omega
        have h2 := hR.out
        rw [HSAY.out, HNO.out, show sayD s.data.toList none = ([], 8) from rfl] at h2
        obtain ⟨e1, e2⟩ : [] = P ∧ _ = code := by injection h2 with e1 e2; exact ⟨e1, e2⟩
        subst e1; subst e2
        obtain rfl : 0 = N := hN.out
        clear h2
        go_wp2_with fail
        refine bodyPost_ret (by simp [results, Tryz.results4, go_sem, *]; try rfl) rfl ?_
        first | exact ⟨none, 0, [], rfl, rfl, InkOwn.nil _ _ _, by have hT9 := hTr; go_grown⟩ | exact ⟨none, 0, rfl, [], rfl, InkOwn.nil _ _ _, by have hT9 := hTr; go_grown⟩
      · have hci : decide ((c : Int) > 0) = false := decide_eq_false (by omega)
        have h2 := hR.out
        rw [HSAY.out, HNO.out, show sayD s.data.toList none = ([], 8) from rfl] at h2
        obtain ⟨e1, e2⟩ : [] = P ∧ _ = code := by injection h2 with e1 e2; exact ⟨e1, e2⟩
        subst e1; subst e2
        obtain rfl : 0 = N := hN.out
        clear h2
        go_wp2_with fail
        refine bodyPost_ret (by simp [results, Tryz.results4, go_sem, *]; try rfl) rfl ?_
        first | exact ⟨none, 0, [], rfl, rfl, InkOwn.nil _ _ _, by have hT9 := hTr; go_grown⟩ | exact ⟨none, 0, rfl, [], rfl, InkOwn.nil _ _ _, by have hT9 := hTr; go_grown⟩
end Go.Proofs.YtinlhigpmchiaaaGreatDoor
