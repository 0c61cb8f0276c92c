/-
  An ink copied by the reference into memory of its own.
-/
import Derived.Test.YtnmmnikoogjhoaaOwnInk
namespace Go.Proofs.Ytnmmnikoogjhoaa
set_option linter.unusedSimpArgs false
set_option linter.unusedVariables false
set_option maxRecDepth 20000
open Go.RowKit
open Go.ChangeShapes Go.WideShapes Go.Deep Go.Joins

set_option maxHeartbeats 16000000 in
theorem l02Own_any (b o : Nat) (A : Option Addr) (n c : Nat) (S : List St) (w : World) (hcell : w.cell? ⟨b, o, none⟩ = some (.slice A n c)) (h : InkRd w A n S) (hs : ∀ s ∈ S, 0 < s.l.length ∧ s.l.length ≤ 1048576) (hn : n ≤ 1048576) :
    Calls Try.prog 55 #[.pointer (some ⟨b, o, none⟩)] w fun e w' => ∃ A2 c2 T, e = .returned (.agg #[.slice A2 n c2]) ∧ ptsOf T = ptsOf S ∧ InkOwn w' w.heap.size w'.heap.size (.slice A2 n c2) T ∧ Below w.heap.size w w' := by
  have HA := Lib.hid h
  have LA := Lib.hid h.len
  clear h
  have hcb : b < w.heap.size := block_lt_of_cell hcell
  go_enter Try.func55, Try.ntmps55
  go_wp2_with fail
  go_loopw [4] (fun i wr => ∃ (k : Nat) (v : Value) (T : List St), k ≤ n ∧ i = .int .i64 (k : Int) ∧ Bk wr (w.heap.size + 1) 29 #[v] ∧ Hid (T.length = k) ∧ Hid (ptsOf T = (ptsOf S).take k) ∧ Hid (InkOwn wr ((w.heap.size + 1) + 1) wr.heap.size v T) ∧ Below (w.heap.size + 1) ((w.alloc (.cells #[.slice none 0 0] 29)).alloc (.cells #[.slice none 0 0] 29)) wr) (fun i _ => n - (intOf i).toNat)
  case atStart => exact ⟨0, .slice none 0 0, [], Nat.zero_le _, rfl, Bk.new1 w _ _ _, rfl, rfl, InkOwn.nil _ _ _, Below.refl _ _⟩
  case round =>
    obtain ⟨k, v, T, hk, rfl, hbk, hT, hpt, hin, hW⟩ := hrel
    have hWs := hW.size
    simp only [World.size_alloc] at hWs
    have hW0 : Below w.heap.size w wr := (by go_grown : Below w.heap.size w ((w.alloc (.cells #[.slice none 0 0] 29)).alloc (.cells #[.slice none 0 0] 29))).trans (hW.mono (by omega))
    have hcw : wr.cell? ⟨b, o, none⟩ = some (.slice A n c) := (hW0.cell (p := ⟨b, o, none⟩) hcb).trans hcell
    have hcb2 : b < wr.heap.size := Nat.lt_of_lt_of_le hcb hW0.size
    obtain ⟨eo, fo⟩ := bk1 hbk
    have hgl := hbk.lt
    by_cases hlt : k < n
    · have ka : k < S.length := by have := LA.out; omega
      obtain ⟨b1, o1, rfl, l1, c1, p1⟩ := (HA.out.below hW0).at ka
      obtain ⟨hs0, hsl⟩ := hs _ (List.getElem_mem ka)
      have P1 := Lib.hid p1
      have c1d : wr.drew.cell? ⟨b1, o1 + k, none⟩ = some (.slice S[k].A S[k].l.length S[k].c) := c1
      have HV : Hid (∀ k, v.ownBlock = some k → (w.heap.size + 1) + 1 ≤ k ∧ k < wr.heap.size) := fun k hk => hin.out.row.lt k hk
      have hk0 : (0 : Int) ≤ (k : Int) := by omega
      have hkn : (k : Int) < (n : Int) := by omega
      have hv1 : ¬ v.ownBlock = some b := fun e => by have h2 := HV.out _ e; omega
      have hb1 : ¬ b = (w.heap.size + 1) := by omega
      clear p1
      go_wp2_with fail
      refine wp_region_held_drew (S := (fun w' => (∀ kb ko, kb < wr.heap.size → ¬ v.ownBlock = some kb → ¬ kb = (w.heap.size + 1) → w'.cell? ⟨kb, ko, none⟩ = wr.cell? ⟨kb, ko, none⟩) ∧ wr.heap.size ≤ w'.heap.size ∧ Below (w.heap.size + 1) wr w')) (by kernel_rfl) ?_ (fun hHeld => ?_)
      · (try dsimp only); exact S2.mk ((Below.refl _ _).drew) (by omega)
      first | (refine take_on (i := 0) (v := ?_) rfl (by kernel_rfl) (by kernel_rfl) (by kernel_rfl) (fun _ _ _ h => h) rfl ?_ (by assumption) ?_; rotate_left; · (intro w' hSw; (try dsimp only at hSw); go_simp; (try with_reducible rfl))) | (refine take_off (i := 0) rfl (by kernel_rfl) (by kernel_rfl) (by kernel_rfl) (fun _ _ _ h => h) rfl (by assumption) ?_)
      (try simp only [Act.put, List.setIfInBounds_toArray, List.set_cons_zero, List.set_cons_succ])
      first | (refine take_on (i := 2) (v := ?_) rfl (by kernel_rfl) (by kernel_rfl) (by kernel_rfl) (fun _ _ _ h => h) rfl ?_ (by assumption) ?_; rotate_left; · (intro w' hSw; (try dsimp only at hSw); go_simp; (try with_reducible rfl))) | (refine take_off (i := 2) rfl (by kernel_rfl) (by kernel_rfl) (by kernel_rfl) (fun _ _ _ h => h) rfl (by assumption) ?_)
      (try simp only [Act.put, List.setIfInBounds_toArray, List.set_cons_zero, List.set_cons_succ])
      first | (refine take_on (i := 3) (v := ?_) rfl (by kernel_rfl) (by kernel_rfl) (by kernel_rfl) (fun _ _ _ h => h) rfl ?_ (by assumption) ?_; rotate_left; · (intro w' hSw; (try dsimp only at hSw); go_simp; (try with_reducible rfl))) | (refine take_off (i := 3) rfl (by kernel_rfl) (by kernel_rfl) (by kernel_rfl) (fun _ _ _ h => h) rfl (by assumption) ?_)
      (try simp only [Act.put, List.setIfInBounds_toArray, List.set_cons_zero, List.set_cons_succ])
      first | (refine take_on (i := 4) (v := ?_) rfl (by kernel_rfl) (by kernel_rfl) (by kernel_rfl) (fun _ _ _ h => h) rfl ?_ (by assumption) ?_; rotate_left; · (intro w' hSw; (try dsimp only at hSw); go_simp; (try with_reducible rfl))) | (refine take_off (i := 4) rfl (by kernel_rfl) (by kernel_rfl) (by kernel_rfl) (fun _ _ _ h => h) rfl (by assumption) ?_)
      (try simp only [Act.put, List.setIfInBounds_toArray, List.set_cons_zero, List.set_cons_succ])
      first | (refine take_on (i := 5) (v := ?_) rfl (by kernel_rfl) (by kernel_rfl) (by kernel_rfl) (fun _ _ _ h => h) rfl ?_ (by assumption) ?_; rotate_left; · (intro w' hSw; (try dsimp only at hSw); go_simp; (try with_reducible rfl))) | (refine take_off (i := 5) rfl (by kernel_rfl) (by kernel_rfl) (by kernel_rfl) (fun _ _ _ h => h) rfl (by assumption) ?_)
      (try simp only [Act.put, List.setIfInBounds_toArray, List.set_cons_zero, List.set_cons_succ])
      first | (refine take_on (i := 6) (v := ?_) rfl (by kernel_rfl) (by kernel_rfl) (by kernel_rfl) (fun _ _ _ h => h) rfl ?_ (by assumption) ?_; rotate_left; · (intro w' hSw; (try dsimp only at hSw); go_simp; (try with_reducible rfl))) | (refine take_off (i := 6) rfl (by kernel_rfl) (by kernel_rfl) (by kernel_rfl) (fun _ _ _ h => h) rfl (by assumption) ?_)
      (try simp only [Act.put, List.setIfInBounds_toArray, List.set_cons_zero, List.set_cons_succ])
      first | (refine take_on (i := 7) (v := ?_) rfl (by kernel_rfl) (by kernel_rfl) (by kernel_rfl) (fun _ _ _ h => h) rfl ?_ (by assumption) ?_; rotate_left; · (intro w' hSw; (try dsimp only at hSw); go_simp; (try with_reducible rfl))) | (refine take_off (i := 7) rfl (by kernel_rfl) (by kernel_rfl) (by kernel_rfl) (fun _ _ _ h => h) rfl (by assumption) ?_)
      (try simp only [Act.put, List.setIfInBounds_toArray, List.set_cons_zero, List.set_cons_succ])
      refine wpAnyH_ready (rs := [1, 8]) (by kernel_rfl) (by simp) ?_
      refine AllReadyH.cons rfl (fun K hK => ?_) (AllReadyH.cons rfl (fun K hK => ?_) (AllReadyH.nil))
      · rw [if_pos (by rfl)]
        go_simp
        refine hK.out _ _ ?_ (fun hHeld2 => ?_)
        · (try dsimp only); exact hHeld
        clear hK K hHeld; have hHeld := hHeld2; clear hHeld2; (try simp only [Act.put, List.setIfInBounds_toArray, List.set_cons_zero, List.set_cons_succ])
        refine wpAnyH_ready (rs := [8]) (by kernel_rfl) (by simp) ?_
        refine AllReadyH.cons rfl (fun K hK => ?_) AllReadyH.nil
        rw [if_pos (by rfl)]
        go_simp
        go_at_call 66
        (with_reducible refine (l02OwnStroke_any b1 (o1 + k) S[k].A S[k].l.length S[k].c S[k].l _ (by first | exact c1 | exact c1d) (by first | exact P1.out | exact P1.out.drew) rfl hs0 hsl).mono ?_)
        rintro e w4 ⟨A2, c2, rfl, ho4, hb4⟩
        have hB4 : Below wr.heap.size wr w4 := Below.next (by go_grown) hb4
        have hz4 := hB4.size
        have HO4 : Hid (Own ptC 72 3 w4 wr.heap.size (.slice A2 S[k].l.length c2) S[k].l) := ho4
        have HIN4 := Lib.hid (hin.out.next hB4)
        have hbk4 : Bk w4 (w.heap.size + 1) 29 #[v] := hbk.next hB4
        obtain ⟨e4, f4⟩ := bk1 hbk4
        have hgl4 := hbk4.lt
        clear ho4
        refine hK.out _ _ ?_ (fun hHeld2 => ?_)
        · (try dsimp only); exact S2.mk hB4 (by omega)
        clear hK K hHeld; have hHeld := hHeld2; clear hHeld2; (try simp only [Act.put, List.setIfInBounds_toArray, List.set_cons_zero, List.set_cons_succ])
        refine wpAnyH_ready (rs := [9]) (by kernel_rfl) (by simp) ?_
        refine AllReadyH.cons rfl (fun K hK => ?_) AllReadyH.nil
        rw [if_pos (by rfl)]
        go_simp
        refine hK.out _ _ ?_ (fun hHeld2 => ?_)
        · (try dsimp only); exact S2.mk (hB4.alloc hz4 _) (by omega)
        clear hK K hHeld; have hHeld := hHeld2; clear hHeld2; (try simp only [Act.put, List.setIfInBounds_toArray, List.set_cons_zero, List.set_cons_succ])
        refine wpAnyH_ready (rs := [10]) (by kernel_rfl) (by simp) ?_
        refine AllReadyH.cons rfl (fun K hK => ?_) AllReadyH.nil
        refine step_push elem_sk (by rfl) (.tmp 16) (.tmp 24) 27 (by rfl) Try.underlying27 ((w.heap.size + 1) + 1) v T ⟨A2, c2, S[k].l⟩ (by rfl) (HIN4.out.row.alloc _) k hT.out w4.heap.size 1 (by rfl) (fun i u hu => ((Bk.new w4 #[.slice A2 S[k].l.length c2] 52).cell i).trans (by simpa [skC, St.val] using hu)) (by unfold maxLen; omega) (by omega) (by simp only [World.size_alloc]; omega) ?_
        intro g5 cap5 w5 hown5 hgrow5 hat5 hlt5 hkeep5
        have hbk5 : Bk w5 (w.heap.size + 1) 29 #[v] := (hgrow5.block _ (by simp only [World.size_alloc]; omega) (fun e => by have h2 := HV.out _ e.symm; omega)).trans (hbk4.alloc _)
        obtain ⟨e5, f5⟩ := bk1 hbk5
        have hz5 := hgrow5.size
        simp only [World.size_alloc] at hz5
        have hgl5 := hbk5.lt
        refine hK.out _ _ ?_ (fun hHeld2 => ?_)
        · (try dsimp only); exact S2.push hHeld hgrow5 (fun k hk => by have h2 := HV.out k hk; omega) (by simp only [World.size_alloc]; omega)
        clear hK K hHeld; have hHeld := hHeld2; clear hHeld2; (try simp only [Act.put, List.setIfInBounds_toArray, List.set_cons_zero, List.set_cons_succ])
        first | (refine take_on (i := 11) (v := ?_) rfl (by kernel_rfl) (by kernel_rfl) (by kernel_rfl) (fun _ _ _ h => h) rfl ?_ (by assumption) ?_; rotate_left; · (intro w' hSw; (try dsimp only at hSw); go_simp; (try with_reducible rfl))) | (refine take_off (i := 11) rfl (by kernel_rfl) (by kernel_rfl) (by kernel_rfl) (fun _ _ _ h => h) rfl (by assumption) ?_)
        (try simp only [Act.put, List.setIfInBounds_toArray, List.set_cons_zero, List.set_cons_succ])
        refine wpAnyH_ready (rs := [12]) (by kernel_rfl) (by simp) ?_
        refine AllReadyH.cons rfl (fun K hK => ?_) AllReadyH.nil
        rw [if_pos (by rfl)]
        go_simp
        refine hK.out _ _ ?_ (fun hHeld2 => ?_)
        · (try dsimp only); exact S2.store hHeld _
        clear hK K hHeld; have hHeld := hHeld2; clear hHeld2; (try simp only [Act.put, List.setIfInBounds_toArray, List.set_cons_zero, List.set_cons_succ])
        refine wpAnyH_done (by kernel_rfl) ?_ _
        have hS := hHeld.2.2
        clear hHeld
        go_wp2_with fail
        go_roundw
        case rel =>
          have hink := InkOwn.push HIN4.out (t := ⟨A2, c2, S[k].l⟩) (HO4.out.mono (by omega)) (fun b hb => (HO4.out.lt b hb).1) (by omega) ((Below.refl _ _).alloc (Nat.le_refl _) _) hgrow5 hat5 hlt5 hown5
          refine ⟨k + 1, _, T ++ [⟨A2, c2, S[k].l⟩], by omega, by go_num, bk1_put hbk5, by simp [Hid, hT.out], ?_, ?_, hW.trans hS⟩
          · rw [Hid, List.take_succ_eq_append_getElem (by rw [ptsOf_len]; exact ka), ← hpt.out]
            simp [ptsOf]
          · have hsz : (w5.setCell ⟨(w.heap.size + 1), 0, none⟩ (.slice (some ⟨g5, 0, none⟩) (k + 1) cap5)).heap.size = w5.heap.size := by simp [World.setCell]
            rw [hsz]
            exact hink.keep fun j hj _ _ => Below.heap_setCell _ _ _ _ (by simp only [ne_eq]; omega)
        case measure => (simp [intOf]; try omega)
      · rw [if_pos (by rfl)]
        go_simp
        go_at_call 66
        (with_reducible refine (l02OwnStroke_any b1 (o1 + k) S[k].A S[k].l.length S[k].c S[k].l _ (by first | exact c1 | exact c1d) (by first | exact P1.out | exact P1.out.drew) rfl hs0 hsl).mono ?_)
        rintro e w4 ⟨A2, c2, rfl, ho4, hb4⟩
        have hB4 : Below wr.heap.size wr w4 := Below.next (by go_grown) hb4
        have hz4 := hB4.size
        have HO4 : Hid (Own ptC 72 3 w4 wr.heap.size (.slice A2 S[k].l.length c2) S[k].l) := ho4
        have HIN4 := Lib.hid (hin.out.next hB4)
        have hbk4 : Bk w4 (w.heap.size + 1) 29 #[v] := hbk.next hB4
        obtain ⟨e4, f4⟩ := bk1 hbk4
        have hgl4 := hbk4.lt
        clear ho4
        refine hK.out _ _ ?_ (fun hHeld2 => ?_)
        · (try dsimp only); exact S2.mk hB4 (by omega)
        clear hK K hHeld; have hHeld := hHeld2; clear hHeld2; (try simp only [Act.put, List.setIfInBounds_toArray, List.set_cons_zero, List.set_cons_succ])
        refine wpAnyH_ready (rs := [1, 9]) (by kernel_rfl) (by simp) ?_
        refine AllReadyH.cons rfl (fun K hK => ?_) (AllReadyH.cons rfl (fun K hK => ?_) (AllReadyH.nil))
        · rw [if_pos (by rfl)]
          go_simp
          refine hK.out _ _ ?_ (fun hHeld2 => ?_)
          · (try dsimp only); exact hHeld
          clear hK K hHeld; have hHeld := hHeld2; clear hHeld2; (try simp only [Act.put, List.setIfInBounds_toArray, List.set_cons_zero, List.set_cons_succ])
          refine wpAnyH_ready (rs := [9]) (by kernel_rfl) (by simp) ?_
          refine AllReadyH.cons rfl (fun K hK => ?_) AllReadyH.nil
          rw [if_pos (by rfl)]
          go_simp
          refine hK.out _ _ ?_ (fun hHeld2 => ?_)
          · (try dsimp only); exact S2.mk (hB4.alloc hz4 _) (by omega)
          clear hK K hHeld; have hHeld := hHeld2; clear hHeld2; (try simp only [Act.put, List.setIfInBounds_toArray, List.set_cons_zero, List.set_cons_succ])
          refine wpAnyH_ready (rs := [10]) (by kernel_rfl) (by simp) ?_
          refine AllReadyH.cons rfl (fun K hK => ?_) AllReadyH.nil
          refine step_push elem_sk (by rfl) (.tmp 16) (.tmp 24) 27 (by rfl) Try.underlying27 ((w.heap.size + 1) + 1) v T ⟨A2, c2, S[k].l⟩ (by rfl) (HIN4.out.row.alloc _) k hT.out w4.heap.size 1 (by rfl) (fun i u hu => ((Bk.new w4 #[.slice A2 S[k].l.length c2] 52).cell i).trans (by simpa [skC, St.val] using hu)) (by unfold maxLen; omega) (by omega) (by simp only [World.size_alloc]; omega) ?_
          intro g5 cap5 w5 hown5 hgrow5 hat5 hlt5 hkeep5
          have hbk5 : Bk w5 (w.heap.size + 1) 29 #[v] := (hgrow5.block _ (by simp only [World.size_alloc]; omega) (fun e => by have h2 := HV.out _ e.symm; omega)).trans (hbk4.alloc _)
          obtain ⟨e5, f5⟩ := bk1 hbk5
          have hz5 := hgrow5.size
          simp only [World.size_alloc] at hz5
          have hgl5 := hbk5.lt
          refine hK.out _ _ ?_ (fun hHeld2 => ?_)
          · (try dsimp only); exact S2.push hHeld hgrow5 (fun k hk => by have h2 := HV.out k hk; omega) (by simp only [World.size_alloc]; omega)
          clear hK K hHeld; have hHeld := hHeld2; clear hHeld2; (try simp only [Act.put, List.setIfInBounds_toArray, List.set_cons_zero, List.set_cons_succ])
          first | (refine take_on (i := 11) (v := ?_) rfl (by kernel_rfl) (by kernel_rfl) (by kernel_rfl) (fun _ _ _ h => h) rfl ?_ (by assumption) ?_; rotate_left; · (intro w' hSw; (try dsimp only at hSw); go_simp; (try with_reducible rfl))) | (refine take_off (i := 11) rfl (by kernel_rfl) (by kernel_rfl) (by kernel_rfl) (fun _ _ _ h => h) rfl (by assumption) ?_)
          (try simp only [Act.put, List.setIfInBounds_toArray, List.set_cons_zero, List.set_cons_succ])
          refine wpAnyH_ready (rs := [12]) (by kernel_rfl) (by simp) ?_
          refine AllReadyH.cons rfl (fun K hK => ?_) AllReadyH.nil
          rw [if_pos (by rfl)]
          go_simp
          refine hK.out _ _ ?_ (fun hHeld2 => ?_)
          · (try dsimp only); exact S2.store hHeld _
          clear hK K hHeld; have hHeld := hHeld2; clear hHeld2; (try simp only [Act.put, List.setIfInBounds_toArray, List.set_cons_zero, List.set_cons_succ])
          refine wpAnyH_done (by kernel_rfl) ?_ _
          have hS := hHeld.2.2
          clear hHeld
          go_wp2_with fail
          go_roundw
          case rel =>
            have hink := InkOwn.push HIN4.out (t := ⟨A2, c2, S[k].l⟩) (HO4.out.mono (by omega)) (fun b hb => (HO4.out.lt b hb).1) (by omega) ((Below.refl _ _).alloc (Nat.le_refl _) _) hgrow5 hat5 hlt5 hown5
            refine ⟨k + 1, _, T ++ [⟨A2, c2, S[k].l⟩], by omega, by go_num, bk1_put hbk5, by simp [Hid, hT.out], ?_, ?_, hW.trans hS⟩
            · rw [Hid, List.take_succ_eq_append_getElem (by rw [ptsOf_len]; exact ka), ← hpt.out]
              simp [ptsOf]
            · have hsz : (w5.setCell ⟨(w.heap.size + 1), 0, none⟩ (.slice (some ⟨g5, 0, none⟩) (k + 1) cap5)).heap.size = w5.heap.size := by simp [World.setCell]
              rw [hsz]
              exact hink.keep fun j hj _ _ => Below.heap_setCell _ _ _ _ (by simp only [ne_eq]; omega)
          case measure => (simp [intOf]; try omega)
        · rw [if_pos (by rfl)]
          go_simp
          refine hK.out _ _ ?_ (fun hHeld2 => ?_)
          · (try dsimp only); exact S2.mk (hB4.alloc hz4 _) (by omega)
          clear hK K hHeld; have hHeld := hHeld2; clear hHeld2; (try simp only [Act.put, List.setIfInBounds_toArray, List.set_cons_zero, List.set_cons_succ])
          refine wpAnyH_ready (rs := [1]) (by kernel_rfl) (by simp) ?_
          refine AllReadyH.cons rfl (fun K hK => ?_) AllReadyH.nil
          rw [if_pos (by rfl)]
          go_simp
          refine hK.out _ _ ?_ (fun hHeld2 => ?_)
          · (try dsimp only); exact hHeld
          clear hK K hHeld; have hHeld := hHeld2; clear hHeld2; (try simp only [Act.put, List.setIfInBounds_toArray, List.set_cons_zero, List.set_cons_succ])
          refine wpAnyH_ready (rs := [10]) (by kernel_rfl) (by simp) ?_
          refine AllReadyH.cons rfl (fun K hK => ?_) AllReadyH.nil
          refine step_push elem_sk (by rfl) (.tmp 16) (.tmp 24) 27 (by rfl) Try.underlying27 ((w.heap.size + 1) + 1) v T ⟨A2, c2, S[k].l⟩ (by rfl) (HIN4.out.row.alloc _) k hT.out w4.heap.size 1 (by rfl) (fun i u hu => ((Bk.new w4 #[.slice A2 S[k].l.length c2] 52).cell i).trans (by simpa [skC, St.val] using hu)) (by unfold maxLen; omega) (by omega) (by simp only [World.size_alloc]; omega) ?_
          intro g5 cap5 w5 hown5 hgrow5 hat5 hlt5 hkeep5
          have hbk5 : Bk w5 (w.heap.size + 1) 29 #[v] := (hgrow5.block _ (by simp only [World.size_alloc]; omega) (fun e => by have h2 := HV.out _ e.symm; omega)).trans (hbk4.alloc _)
          obtain ⟨e5, f5⟩ := bk1 hbk5
          have hz5 := hgrow5.size
          simp only [World.size_alloc] at hz5
          have hgl5 := hbk5.lt
          refine hK.out _ _ ?_ (fun hHeld2 => ?_)
          · (try dsimp only); exact S2.push hHeld hgrow5 (fun k hk => by have h2 := HV.out k hk; omega) (by simp only [World.size_alloc]; omega)
          clear hK K hHeld; have hHeld := hHeld2; clear hHeld2; (try simp only [Act.put, List.setIfInBounds_toArray, List.set_cons_zero, List.set_cons_succ])
          first | (refine take_on (i := 11) (v := ?_) rfl (by kernel_rfl) (by kernel_rfl) (by kernel_rfl) (fun _ _ _ h => h) rfl ?_ (by assumption) ?_; rotate_left; · (intro w' hSw; (try dsimp only at hSw); go_simp; (try with_reducible rfl))) | (refine take_off (i := 11) rfl (by kernel_rfl) (by kernel_rfl) (by kernel_rfl) (fun _ _ _ h => h) rfl (by assumption) ?_)
          (try simp only [Act.put, List.setIfInBounds_toArray, List.set_cons_zero, List.set_cons_succ])
          refine wpAnyH_ready (rs := [12]) (by kernel_rfl) (by simp) ?_
          refine AllReadyH.cons rfl (fun K hK => ?_) AllReadyH.nil
          rw [if_pos (by rfl)]
          go_simp
          refine hK.out _ _ ?_ (fun hHeld2 => ?_)
          · (try dsimp only); exact S2.store hHeld _
          clear hK K hHeld; have hHeld := hHeld2; clear hHeld2; (try simp only [Act.put, List.setIfInBounds_toArray, List.set_cons_zero, List.set_cons_succ])
          refine wpAnyH_done (by kernel_rfl) ?_ _
          have hS := hHeld.2.2
          clear hHeld
          go_wp2_with fail
          go_roundw
          case rel =>
            have hink := InkOwn.push HIN4.out (t := ⟨A2, c2, S[k].l⟩) (HO4.out.mono (by omega)) (fun b hb => (HO4.out.lt b hb).1) (by omega) ((Below.refl _ _).alloc (Nat.le_refl _) _) hgrow5 hat5 hlt5 hown5
            refine ⟨k + 1, _, T ++ [⟨A2, c2, S[k].l⟩], by omega, by go_num, bk1_put hbk5, by simp [Hid, hT.out], ?_, ?_, hW.trans hS⟩
            · rw [Hid, List.take_succ_eq_append_getElem (by rw [ptsOf_len]; exact ka), ← hpt.out]
              simp [ptsOf]
            · have hsz : (w5.setCell ⟨(w.heap.size + 1), 0, none⟩ (.slice (some ⟨g5, 0, none⟩) (k + 1) cap5)).heap.size = w5.heap.size := by simp [World.setCell]
              rw [hsz]
              exact hink.keep fun j hj _ _ => Below.heap_setCell _ _ _ _ (by simp only [ne_eq]; omega)
          case measure => (simp [intOf]; try omega)

    · obtain rfl : k = n := by omega
      have HIN := Lib.hid hin.out
      have HRE : Hid (ptsOf T = ptsOf S) := by rw [Hid, hpt.out, List.take_of_length_le (by rw [ptsOf_len]; have := LA.out; omega)]
      obtain ⟨A2, c2, hv, _, _, _⟩ := hin.out.row.rd
      rw [hT.out] at hv
      subst hv
      have hr0 : Bk wr w.heap.size 29 #[.slice none 0 0] := ((Bk.new w _ _).alloc _).below hW (by omega)
      obtain ⟨er, fr⟩ := bk1 hr0
      have hgr := hr0.lt
      clear hin
      go_wp2_with fail
      refine bodyPost_ret (by simp [results, Try.results55, go_sem, *]; try rfl) rfl ?_
      refine ⟨A2, c2, T, rfl, HRE.out, ?_, by go_grown⟩
      have hsz : (wr.setCell ⟨w.heap.size, 0, none⟩ (.slice A2 k c2)).heap.size = wr.heap.size := by simp [World.setCell]
      rw [hsz]
      exact (HIN.out.keep fun j hj _ _ => Below.heap_setCell _ _ _ _ (by simp only [ne_eq]; omega)).low (by omega)
end Go.Proofs.Ytnmmnikoogjhoaa
