/-
  The words of a text: program and reference list the same.
-/
import Derived.Test.YtgpmlpneffbbbaaDoorSplit
import Derived.Test.YtgpmlpneffbbbaaDoorShelf
namespace Go.Proofs.YtgpmlpneffbbbaaDoor
set_option linter.unusedSimpArgs false
set_option linter.unusedVariables false
set_option maxRecDepth 20000
open Go.RowKit
open Go.ChangeShapes Go.WideShapes Go.Deep Go.Joins

theorem rowOf_sC (l : List ByteArray) : rowOf sC l = l.map Value.string := by
  induction l with
  | nil => rfl
  | cons b l ih => show sC b ++ rowOf sC l = _; rw [ih]; rfl
/-- a variable of the library's that holds some number -/
def MaxIs (w : World) : Prop := ∃ m, w.cell? ⟨Tryd.laysM146_ren.g 1, 0, none⟩ = some (.int .i64 m)
theorem MaxIs.of {w : World} (h : w.ShapedOpen Tryd.prog) : MaxIs w := Tryd.laysM146.s1_3 w h
theorem MaxIs.below {w w' : World} (h : MaxIs w) (hb : Below w.heap.size w w') : MaxIs w' := by
  obtain ⟨m, hm⟩ := h
  exact ⟨m, (hb.cell (p := ⟨Tryd.laysM146_ren.g 1, 0, none⟩) (block_lt_of_cell hm)).trans hm⟩
theorem splitB_is (c : UInt8) (s : ByteArray) : Lib.splitB (bs [c]) 0 (Lib.countB s (bs [c])) s = splitBs c s := by
  apply map_inj_bs
  rw [splitBs_map, Lib.splitB_data, bs_list, ← split_lib c s.data.toList.length s.data.toList (Nat.le_refl _)]
  unfold Lib.split Lib.countB
  rw [bs_list]
theorem split_any (s : ByteArray) (c : UInt8) (n : Nat) (w : World) (hn : (splitBs c s).length = n) (hs : s.size ≤ 1048576) (hm : MaxIs w) :
    Calls Tryd.prog 24 #[.string s, .string (bs [c])] w fun e w' => ∃ g, e = .returned (.slice (some ⟨g, 0, none⟩) n n) ∧ w.heap.size ≤ g ∧ Bk w' g 9 (rowOf sC (splitBs c s)).toArray ∧ Below w.heap.size w w' := by
  subst hn
  obtain ⟨m, hm⟩ := hm
  refine (Tryd.strings_Split s (bs [c]) m w (by omega) hm (by simp [bs_size])).mono ?_
  rintro e w' ⟨rfl, rfl⟩
  have hl : (splitBs c s).length = Lib.countB s (bs [c]) + 1 := by
    rw [← splitB_is]
    exact Lib.splitB_all (bs [c]) (by simp [bs_size]) 0 _ s rfl
  refine ⟨w.heap.size, by rw [hl], Nat.le_refl _, ?_, by go_grown⟩
  rw [rowOf_sC, ← splitB_is]
  exact Bk.new w _ _

theorem l01Split_n (s : ByteArray) (c : UInt8) (n : Nat) (w : World) (hn : (splitBs c s).length = n) (hs : s.size ≤ 1048576) :
    Calls Tryd.prog 23 #[.string s, .int .u8 (c.toNat : Int)] w fun e w' => ∃ A2 c2, e = .returned (.slice A2 n c2) ∧ Own sC 9 1 w' w.heap.size (.slice A2 n c2) (splitBs c s) ∧ Below w.heap.size w w' := by
  subst hn; exact l01Split_any s c w hs
def wordsB (s : ByteArray) : List ByteArray := (splitBs 32 s).filter fun x => decide (x ≠ bs [])
theorem wordsB_len (s : ByteArray) : (wordsB s).length ≤ s.size + 1 := Nat.le_trans (List.length_filter_le _ _) (splitBs_len 32 s)
theorem filter_yes {L : List ByteArray} {k : Nat} (h : k < L.length) {x : ByteArray} (hx : L[k] = x) (hn : ¬ x = bs []) : (L.take (k + 1)).filter (fun x => decide (x ≠ bs [])) = (L.take k).filter (fun x => decide (x ≠ bs [])) ++ [x] := by
  rw [List.take_succ_eq_append_getElem h, List.filter_append, hx]
  simp [hn]
theorem filter_no {L : List ByteArray} {k : Nat} (h : k < L.length) (hx : L[k] = bs []) : (L.take (k + 1)).filter (fun x => decide (x ≠ bs [])) = (L.take k).filter (fun x => decide (x ≠ bs [])) := by
  rw [List.take_succ_eq_append_getElem h, List.filter_append, hx]
  simp

set_option maxHeartbeats 4000000 in
theorem iSplitWords (s : ByteArray) (w : World) (hs : s.size ≤ 1048576) (hm : MaxIs w) :
    Calls Tryd.prog 11 #[.string s] w fun e w' => ∃ A2 c2, e = .returned (.slice A2 (wordsB s).length c2) ∧ Own sC 9 1 w' w.heap.size (.slice A2 (wordsB s).length c2) (wordsB s) ∧ Below w.heap.size w w' := by
  go_enter Tryd.func11, Tryd.ntmps11
  go_wp2_with fail
  obtain ⟨n, hn⟩ : ∃ n, (splitBs 32 s).length = n := ⟨_, rfl⟩
  have HN := Lib.hid hn
  refine (split_any s 32 n _ hn hs hm).mono ?_
  rintro e w2 ⟨gS, rfl, hgS, hk2, hb2⟩
  have HA : Hid (Rd w2 (some ⟨gS, 0, none⟩) n 1 (rowOf sC (splitBs 32 s))) := hk2.rd (by rw [rowOf_length sC_len, hn])
  have hLB := splitBs_len 32 s
  have hT2 : Below w.heap.size w w2 := hb2
  have hz2 := hb2.size
  rw [hn] at hLB
  clear hb2 hk2 hn
  go_wp2_with fail
  go_loopw [3, 5, 9] (fun v _ i wr => ∃ (k : Nat) (W : List ByteArray), k ≤ n ∧ i = .int .i64 (k : Int) ∧ W.length ≤ k ∧ Hid (W = ((splitBs 32 s).take k).filter fun x => decide (x ≠ bs [])) ∧ Own sC 9 1 wr w2.heap.size v W ∧ Below w2.heap.size w2 wr) (fun _ _ i _ => n - (intOf i).toNat)
  case atStart => exact ⟨0, [], Nat.zero_le _, rfl, Nat.le_refl _, rfl, Own.nil _ _ _ _ _, by go_grown⟩
  case round =>
    obtain ⟨k, W, hk, rfl, hWk, hW, hown, hB2⟩ := hrel
    have hBs := hB2.size
    have hB : Below w.heap.size w wr := Below.next hT2 hB2
    have HO := Lib.hid hown
    have HV : Hid (∀ b, u3.ownBlock = some b → w2.heap.size ≤ b) := fun b hb => (hown.lt b hb).1
    clear hown
    by_cases hlt : k < n
    · have ka : k < (splitBs 32 s).length := by rw [HN.out]; exact hlt
      obtain ⟨b1, o1, e1, l1, hc1⟩ := (HA.out.below hB2).at sC_len HN.out ka
      obtain ⟨x, hx⟩ : ∃ x, (splitBs 32 s)[k] = x := ⟨_, rfl⟩
      rw [hx] at hc1
      have a1 : wr.cell? ⟨b1, o1 + k, none⟩ = some (.string x) := by simpa using hc1 0 _ rfl
      have hk0 : (0 : Int) ≤ (k : Int) := by omega
      have hkn : (k : Int) < (n : Int) := by omega
      clear hc1
      injection e1 with e1
      injection e1 with e1 e2
      subst e1; subst e2
      simp only [Nat.zero_add] at a1
      by_cases hx0 : x = bs []
      · subst hx0
        have hnx : Hid (W = ((splitBs 32 s).take (k + 1)).filter fun x => decide (x ≠ bs [])) := by rw [Hid, filter_no ka hx]; exact hW.out
        have hbs : bs [] = ⟨#[]⟩ := rfl
        rw [hbs] at a1
        clear hx hbs
        go_wp2_with fail
        go_roundw
        case rel => exact ⟨k + 1, W, by omega, by go_num, by omega, hnx, HO.out, hB2⟩
        case measure => (simp [intOf]; try omega)
      · have hnx : Hid (W ++ [x] = ((splitBs 32 s).take (k + 1)).filter fun x => decide (x ≠ bs [])) := by rw [Hid, filter_yes ka hx hx0, ← hW.out]
        have hl0 : x.toList.isEmpty = false := by
          rw [List.isEmpty_eq_false_iff, ByteArray.toList_eq]
          exact fun e => hx0 (bs_ext (by rw [e]; rfl))
        obtain ⟨m, hm⟩ : ∃ m, W.length = m := ⟨_, rfl⟩
        have HM := Lib.hid hm
        have hmk : m ≤ k := by omega
        clear hm hx hWk hx0
        go_wp2_with ((at_builtin; refine list_push elem_str (by rfl) (.tmp 15) (.tmp 17) 24 (by rfl) Tryd.underlying24 w2.heap.size _ W x (by rfl) (HO.out.alloc _) m HM.out wr.heap.size 1 (by rfl) (fun i u hu => ((Bk.new wr #[.string x] 9).cell i).trans (by simpa [sC] using hu)) (by unfold maxLen; omega) (by omega) (by simp only [World.size_alloc]; omega) ?_; intro g5 cap5 w5 hown5 hgrow5 hat5 hlt5 hkeep5; have HO5 := Lib.hid hown5; have HG5 := Lib.hid hgrow5; clear hown5 hgrow5 hat5 hkeep5))
        go_roundw
        case rel =>
          refine ⟨k + 1, W ++ [x], by omega, by go_num, by rw [List.length_append, HM.out]; simp; omega, hnx, HO5.out, (hB2.alloc hBs _).grown HG5.out (by simp only [World.size_alloc]; omega) HV.out⟩
        case measure => (simp [intOf]; try omega)
    · obtain rfl : k = n := by omega
      have hall : Hid (W = wordsB s) := by rw [Hid, hW.out]; unfold wordsB; rw [List.take_of_length_le (by rw [HN.out]; exact Nat.le_refl _)]
      obtain ⟨A2, c2, hv, _, _, _⟩ := HO.out.rd
      subst hv
      go_wp2_with fail
      refine bodyPost_ret (by simp [results, Tryd.results11, go_sem, *]; try rfl) rfl ?_
      have h9 := HO.out
      rw [hall.out] at h9
      exact ⟨A2, c2, by rw [hall.out], h9.mono hz2, hB⟩

set_option maxHeartbeats 4000000 in
theorem sSplitWords (s : ByteArray) (w : World) (hs : s.size ≤ 1048576) :
    Calls Tryd.prog 10 #[.string s] w fun e w' => ∃ A2 c2, e = .returned (.slice A2 (wordsB s).length c2) ∧ Own sC 9 1 w' w.heap.size (.slice A2 (wordsB s).length c2) (wordsB s) ∧ Below w.heap.size w w' := by
  go_enter Tryd.func10, Tryd.ntmps10
  go_wp2_with fail
  obtain ⟨n, hn⟩ : ∃ n, (splitBs 32 s).length = n := ⟨_, rfl⟩
  have HN := Lib.hid hn
  refine (l01Split_n s 32 n _ hn hs).mono ?_
  rintro e w2 ⟨AS, cS, rfl, hoS, hb2⟩
  have HA : Hid (Rd w2 AS n 1 (rowOf sC (splitBs 32 s))) := hoS.rdS hn
  have hLB := splitBs_len 32 s
  have hT2 : Below w.heap.size w w2 := hb2
  have hz2 := hb2.size
  rw [hn] at hLB
  clear hb2 hoS hn
  go_wp2_with fail
  go_loopw [4, 5] (fun v i wr => ∃ (k : Nat) (W : List ByteArray), k ≤ n ∧ i = .int .i64 (k : Int) ∧ W.length ≤ k ∧ Hid (W = ((splitBs 32 s).take k).filter fun x => decide (x ≠ bs [])) ∧ Own sC 9 1 wr w2.heap.size v W ∧ Below w2.heap.size w2 wr) (fun _ i _ => n - (intOf i).toNat)
  case atStart => exact ⟨0, [], Nat.zero_le _, rfl, Nat.le_refl _, rfl, Own.empty (Bk.new w2 #[] 9) (Nat.le_refl _), by go_grown⟩
  case round =>
    obtain ⟨k, W, hk, rfl, hWk, hW, hown, hB2⟩ := hrel
    have hBs := hB2.size
    have hB : Below w.heap.size w wr := Below.next hT2 hB2
    have HO := Lib.hid hown
    have HV : Hid (∀ b, u4.ownBlock = some b → w2.heap.size ≤ b) := fun b hb => (hown.lt b hb).1
    clear hown
    by_cases hlt : k < n
    · have ka : k < (splitBs 32 s).length := by rw [HN.out]; exact hlt
      obtain ⟨b1, o1, e1, l1, hc1⟩ := (HA.out.below hB2).at sC_len HN.out ka
      obtain ⟨x, hx⟩ : ∃ x, (splitBs 32 s)[k] = x := ⟨_, rfl⟩
      rw [hx] at hc1
      have a1 : wr.cell? ⟨b1, o1 + k, none⟩ = some (.string x) := by simpa using hc1 0 _ rfl
      have hk0 : (0 : Int) ≤ (k : Int) := by omega
      have hkn : (k : Int) < (n : Int) := by omega
      clear hc1
      subst e1
      by_cases hx0 : x = bs []
      · subst hx0
        have hnx : Hid (W = ((splitBs 32 s).take (k + 1)).filter fun x => decide (x ≠ bs [])) := by rw [Hid, filter_no ka hx]; exact hW.out
        have hbs : bs [] = ⟨#[]⟩ := rfl
        rw [hbs] at a1
        clear hx hbs
        go_wp2_with fail
        go_roundw
        case rel => exact ⟨k + 1, W, by omega, by go_num, by omega, hnx, HO.out, hB2⟩
        case measure => (simp [intOf]; try omega)
      · have hnx : Hid (W ++ [x] = ((splitBs 32 s).take (k + 1)).filter fun x => decide (x ≠ bs [])) := by rw [Hid, filter_yes ka hx hx0, ← hW.out]
        have hl0 : x.toList.isEmpty = false := by
          rw [List.isEmpty_eq_false_iff, ByteArray.toList_eq]
          exact fun e => hx0 (bs_ext (by rw [e]; rfl))
        obtain ⟨m, hm⟩ : ∃ m, W.length = m := ⟨_, rfl⟩
        have HM := Lib.hid hm
        have hmk : m ≤ k := by omega
        clear hm hx hWk hx0
        go_wp2_with ((at_builtin; refine list_push elem_str (by rfl) (.tmp 20) (.tmp 25) 24 (by rfl) Tryd.underlying24 w2.heap.size _ W x (by rfl) (HO.out.alloc _) m HM.out wr.heap.size 1 (by rfl) (fun i u hu => ((Bk.new wr #[.string x] 9).cell i).trans (by simpa [sC] using hu)) (by unfold maxLen; omega) (by omega) (by simp only [World.size_alloc]; omega) ?_; intro g5 cap5 w5 hown5 hgrow5 hat5 hlt5 hkeep5; have HO5 := Lib.hid hown5; have HG5 := Lib.hid hgrow5; clear hown5 hgrow5 hat5 hkeep5))
        go_roundw
        case rel =>
          refine ⟨k + 1, W ++ [x], by omega, by go_num, by rw [List.length_append, HM.out]; simp; omega, hnx, HO5.out, (hB2.alloc hBs _).grown HG5.out (by simp only [World.size_alloc]; omega) HV.out⟩
        case measure => (simp [intOf]; try omega)
    · obtain rfl : k = n := by omega
      have hall : Hid (W = wordsB s) := by rw [Hid, hW.out]; unfold wordsB; rw [List.take_of_length_le (by rw [HN.out]; exact Nat.le_refl _)]
      obtain ⟨A2, c2, hv, _, _, _⟩ := HO.out.rd
      subst hv
      go_wp2_with fail
      refine bodyPost_ret (by simp [results, Tryd.results10, go_sem, *]; try rfl) rfl ?_
      have h9 := HO.out
      rw [hall.out] at h9
      exact ⟨A2, c2, by rw [hall.out], h9.mono hz2, hB⟩
end Go.Proofs.YtgpmlpneffbbbaaDoor
