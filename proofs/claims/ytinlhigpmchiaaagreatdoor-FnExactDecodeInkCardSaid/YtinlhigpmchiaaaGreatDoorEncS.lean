/-
  The compressed form of an ink: the reference's walk.
-/
import Derived.Test.YtinlhigpmchiaaaGreatDoorEncI
import Derived.Test.YtinlhigpmchiaaaGreatDoorInkOka
namespace Go.Proofs.YtinlhigpmchiaaaGreatDoor
set_option linter.unusedSimpArgs false
set_option linter.unusedVariables false
set_option maxRecDepth 20000
open Go.RowKit
open Go.ChangeShapes Go.WideShapes Go.Deep Go.Joins

set_option maxHeartbeats 8000000 in
theorem l04Column0_any (b o : Nat) (A : Option Addr) (n c : Nat) (xs : List Pt) (w : World) (hcell : w.cell? ⟨b, o, none⟩ = some (.slice A n c)) (ha : Rd w A n 3 (rowOf ptC xs)) (la : xs.length = n) (hn : n ≤ 60) :
    Calls Tryz.prog 31 #[.pointer (some ⟨b, o, none⟩), .int .i64 0] w fun e w' => (∃ v, e = .returned v ∧ Own iC 2 1 w' w.heap.size v (colOf xs 0)) ∧ Below w.heap.size w w' := by
  have hbl : b < w.heap.size := block_lt_of_cell hcell
  have HC := Lib.hid hcell
  have HA := Lib.hid ha
  have LA := Lib.hid la
  clear ha la
  go_enter Tryz.func31, Tryz.ntmps31
  go_wp2_with fail
  clear hcell
  go_loopw [5, 6] (fun v i wr => ∃ k : Nat, k ≤ n ∧ i = .int .i64 (k : Int) ∧ Own iC 2 1 wr w.heap.size v (colTk xs 0 k) ∧ Below w.heap.size w wr) (fun _ i _ => n - (intOf i).toNat)
  case atStart => exact ⟨0, Nat.zero_le _, rfl, by rw [colTk_zero]; exact Own.of_bk (l := []) (Bk.new w #[] 2) iC_len (by decide) (Nat.le_refl _), by go_grown⟩
  case round =>
    obtain ⟨k, hk, rfl, hown, hB⟩ := hrel
    have hBs := hB.size
    have q0 : wr.cell? ⟨b, o, none⟩ = some (.slice A n c) := (hB.cell (p := ⟨b, o, none⟩) hbl).trans HC.out
    have hbr : b < wr.heap.size := by omega
    have HV : Hid (∀ b, u5.ownBlock = some b → w.heap.size ≤ b) := fun b hb => (hown.lt b hb).1
    have HO := Lib.hid hown
    clear hown
    by_cases hlt : k < n
    · have ka : k < xs.length := by rw [LA.out]; exact hlt
      obtain ⟨b3, o3, e3, l3, a1, a2, a3⟩ := (HA.out.below hB).pt LA.out ka
      have hnx := Lib.hid (colTk_n0 ka)
      have hl : Hid ((colTk xs 0 k).length = k) := colTk_len (Nat.le_of_lt ka)
      obtain ⟨px, hpx⟩ : ∃ z, xs[k].x = z := ⟨_, rfl⟩
      obtain ⟨py, hpy⟩ : ∃ z, xs[k].y = z := ⟨_, rfl⟩
      obtain ⟨pt, hpt⟩ : ∃ z, xs[k].t = z := ⟨_, rfl⟩
      rw [hpx] at a1
      rw [hpy] at a2
      rw [hpt] at a3
      try rw [hpx] at hnx
      try rw [hpy] at hnx
      try rw [hpt] at hnx
      rw [e3] at q0
      have hk0 : (0 : Int) ≤ (k : Int) := by omega
      have hkn : (k : Int) < (n : Int) := by omega
      clear e3 hpx hpy hpt
      go_wp2_with (at_builtin; refine list_push elem_int (by rfl) (.tmp 25) (.tmp 36) 55 (by rfl) Tryz.underlying55 w.heap.size _ (colTk xs 0 k) px (by rfl) (((HO.out.alloc _).alloc _).alloc _) k hl.out (wr.heap.size + 1 + 1) 1 (by rfl) (fun i u hu => ((Bk.new2 wr (.cells #[.int .i64 px, .int .i64 py, .int .i64 pt] 58) (.cells #[.int .i64 px, .int .i64 py, .int .i64 pt] 2) #[.int .i64 px] 2).cell i).trans (by simpa [iC] using hu)) (by unfold maxLen; omega) (by omega) (by simp only [World.size_alloc]; omega) ?_; intro g5 cap5 w5 hown5 hgrow5 hat5 hlt5 hkeep5; have HO5 := Lib.hid hown5; have HG5 := Lib.hid hgrow5; clear hown5 hgrow5 hat5 hkeep5)
      go_roundw
      case rel => exact ⟨k + 1, by omega, by go_num, by rw [hnx.out]; exact HO5.out, (((hB.alloc hBs (.cells #[.int .i64 px, .int .i64 py, .int .i64 pt] 58)).alloc (by simp only [World.size_alloc]; omega) (.cells #[.int .i64 px, .int .i64 py, .int .i64 pt] 2)).alloc (by simp only [World.size_alloc]; omega) (.cells #[.int .i64 px] 2)).grown HG5.out (by simp only [World.size_alloc]; omega) HV.out⟩
      case measure => (simp [intOf]; try omega)
    · obtain rfl : k = n := by omega
      have hall : Hid (colTk xs 0 k = colOf xs 0) := colTk_all (by rw [LA.out]; exact Nat.le_refl _)
      go_wp2_with fail
      go_ret
      exact ⟨⟨_, rfl, by rw [← hall.out]; exact HO.out⟩, hB⟩

set_option maxHeartbeats 8000000 in
theorem l04Column1_any (b o : Nat) (A : Option Addr) (n c : Nat) (xs : List Pt) (w : World) (hcell : w.cell? ⟨b, o, none⟩ = some (.slice A n c)) (ha : Rd w A n 3 (rowOf ptC xs)) (la : xs.length = n) (hn : n ≤ 60) :
    Calls Tryz.prog 31 #[.pointer (some ⟨b, o, none⟩), .int .i64 1] w fun e w' => (∃ v, e = .returned v ∧ Own iC 2 1 w' w.heap.size v (colOf xs 1)) ∧ Below w.heap.size w w' := by
  have hbl : b < w.heap.size := block_lt_of_cell hcell
  have HC := Lib.hid hcell
  have HA := Lib.hid ha
  have LA := Lib.hid la
  clear ha la
  go_enter Tryz.func31, Tryz.ntmps31
  go_wp2_with fail
  clear hcell
  go_loopw [5, 6] (fun v i wr => ∃ k : Nat, k ≤ n ∧ i = .int .i64 (k : Int) ∧ Own iC 2 1 wr w.heap.size v (colTk xs 1 k) ∧ Below w.heap.size w wr) (fun _ i _ => n - (intOf i).toNat)
  case atStart => exact ⟨0, Nat.zero_le _, rfl, by rw [colTk_zero]; exact Own.of_bk (l := []) (Bk.new w #[] 2) iC_len (by decide) (Nat.le_refl _), by go_grown⟩
  case round =>
    obtain ⟨k, hk, rfl, hown, hB⟩ := hrel
    have hBs := hB.size
    have q0 : wr.cell? ⟨b, o, none⟩ = some (.slice A n c) := (hB.cell (p := ⟨b, o, none⟩) hbl).trans HC.out
    have hbr : b < wr.heap.size := by omega
    have HV : Hid (∀ b, u5.ownBlock = some b → w.heap.size ≤ b) := fun b hb => (hown.lt b hb).1
    have HO := Lib.hid hown
    clear hown
    by_cases hlt : k < n
    · have ka : k < xs.length := by rw [LA.out]; exact hlt
      obtain ⟨b3, o3, e3, l3, a1, a2, a3⟩ := (HA.out.below hB).pt LA.out ka
      have hnx := Lib.hid (colTk_n1 ka)
      have hl : Hid ((colTk xs 1 k).length = k) := colTk_len (Nat.le_of_lt ka)
      obtain ⟨px, hpx⟩ : ∃ z, xs[k].x = z := ⟨_, rfl⟩
      obtain ⟨py, hpy⟩ : ∃ z, xs[k].y = z := ⟨_, rfl⟩
      obtain ⟨pt, hpt⟩ : ∃ z, xs[k].t = z := ⟨_, rfl⟩
      rw [hpx] at a1
      rw [hpy] at a2
      rw [hpt] at a3
      try rw [hpx] at hnx
      try rw [hpy] at hnx
      try rw [hpt] at hnx
      rw [e3] at q0
      have hk0 : (0 : Int) ≤ (k : Int) := by omega
      have hkn : (k : Int) < (n : Int) := by omega
      clear e3 hpx hpy hpt
      go_wp2_with (at_builtin; refine list_push elem_int (by rfl) (.tmp 25) (.tmp 36) 55 (by rfl) Tryz.underlying55 w.heap.size _ (colTk xs 1 k) py (by rfl) (((HO.out.alloc _).alloc _).alloc _) k hl.out (wr.heap.size + 1 + 1) 1 (by rfl) (fun i u hu => ((Bk.new2 wr (.cells #[.int .i64 px, .int .i64 py, .int .i64 pt] 58) (.cells #[.int .i64 px, .int .i64 py, .int .i64 pt] 2) #[.int .i64 py] 2).cell i).trans (by simpa [iC] using hu)) (by unfold maxLen; omega) (by omega) (by simp only [World.size_alloc]; omega) ?_; intro g5 cap5 w5 hown5 hgrow5 hat5 hlt5 hkeep5; have HO5 := Lib.hid hown5; have HG5 := Lib.hid hgrow5; clear hown5 hgrow5 hat5 hkeep5)
      go_roundw
      case rel => exact ⟨k + 1, by omega, by go_num, by rw [hnx.out]; exact HO5.out, (((hB.alloc hBs (.cells #[.int .i64 px, .int .i64 py, .int .i64 pt] 58)).alloc (by simp only [World.size_alloc]; omega) (.cells #[.int .i64 px, .int .i64 py, .int .i64 pt] 2)).alloc (by simp only [World.size_alloc]; omega) (.cells #[.int .i64 py] 2)).grown HG5.out (by simp only [World.size_alloc]; omega) HV.out⟩
      case measure => (simp [intOf]; try omega)
    · obtain rfl : k = n := by omega
      have hall : Hid (colTk xs 1 k = colOf xs 1) := colTk_all (by rw [LA.out]; exact Nat.le_refl _)
      go_wp2_with fail
      go_ret
      exact ⟨⟨_, rfl, by rw [← hall.out]; exact HO.out⟩, hB⟩

set_option maxHeartbeats 8000000 in
theorem l04Column2_any (b o : Nat) (A : Option Addr) (n c : Nat) (xs : List Pt) (w : World) (hcell : w.cell? ⟨b, o, none⟩ = some (.slice A n c)) (ha : Rd w A n 3 (rowOf ptC xs)) (la : xs.length = n) (hn : n ≤ 60) :
    Calls Tryz.prog 31 #[.pointer (some ⟨b, o, none⟩), .int .i64 2] w fun e w' => (∃ v, e = .returned v ∧ Own iC 2 1 w' w.heap.size v (colOf xs 2)) ∧ Below w.heap.size w w' := by
  have hbl : b < w.heap.size := block_lt_of_cell hcell
  have HC := Lib.hid hcell
  have HA := Lib.hid ha
  have LA := Lib.hid la
  clear ha la
  go_enter Tryz.func31, Tryz.ntmps31
  go_wp2_with fail
  clear hcell
  go_loopw [5, 6] (fun v i wr => ∃ k : Nat, k ≤ n ∧ i = .int .i64 (k : Int) ∧ Own iC 2 1 wr w.heap.size v (colTk xs 2 k) ∧ Below w.heap.size w wr) (fun _ i _ => n - (intOf i).toNat)
  case atStart => exact ⟨0, Nat.zero_le _, rfl, by rw [colTk_zero]; exact Own.of_bk (l := []) (Bk.new w #[] 2) iC_len (by decide) (Nat.le_refl _), by go_grown⟩
  case round =>
    obtain ⟨k, hk, rfl, hown, hB⟩ := hrel
    have hBs := hB.size
    have q0 : wr.cell? ⟨b, o, none⟩ = some (.slice A n c) := (hB.cell (p := ⟨b, o, none⟩) hbl).trans HC.out
    have hbr : b < wr.heap.size := by omega
    have HV : Hid (∀ b, u5.ownBlock = some b → w.heap.size ≤ b) := fun b hb => (hown.lt b hb).1
    have HO := Lib.hid hown
    clear hown
    by_cases hlt : k < n
    · have ka : k < xs.length := by rw [LA.out]; exact hlt
      obtain ⟨b3, o3, e3, l3, a1, a2, a3⟩ := (HA.out.below hB).pt LA.out ka
      have hnx := Lib.hid (colTk_n2 ka)
      have hl : Hid ((colTk xs 2 k).length = k) := colTk_len (Nat.le_of_lt ka)
      obtain ⟨px, hpx⟩ : ∃ z, xs[k].x = z := ⟨_, rfl⟩
      obtain ⟨py, hpy⟩ : ∃ z, xs[k].y = z := ⟨_, rfl⟩
      obtain ⟨pt, hpt⟩ : ∃ z, xs[k].t = z := ⟨_, rfl⟩
      rw [hpx] at a1
      rw [hpy] at a2
      rw [hpt] at a3
      try rw [hpx] at hnx
      try rw [hpy] at hnx
      try rw [hpt] at hnx
      rw [e3] at q0
      have hk0 : (0 : Int) ≤ (k : Int) := by omega
      have hkn : (k : Int) < (n : Int) := by omega
      clear e3 hpx hpy hpt
      go_wp2_with (at_builtin; refine list_push elem_int (by rfl) (.tmp 25) (.tmp 36) 55 (by rfl) Tryz.underlying55 w.heap.size _ (colTk xs 2 k) pt (by rfl) (((HO.out.alloc _).alloc _).alloc _) k hl.out (wr.heap.size + 1 + 1) 1 (by rfl) (fun i u hu => ((Bk.new2 wr (.cells #[.int .i64 px, .int .i64 py, .int .i64 pt] 58) (.cells #[.int .i64 px, .int .i64 py, .int .i64 pt] 2) #[.int .i64 pt] 2).cell i).trans (by simpa [iC] using hu)) (by unfold maxLen; omega) (by omega) (by simp only [World.size_alloc]; omega) ?_; intro g5 cap5 w5 hown5 hgrow5 hat5 hlt5 hkeep5; have HO5 := Lib.hid hown5; have HG5 := Lib.hid hgrow5; clear hown5 hgrow5 hat5 hkeep5)
      go_roundw
      case rel => exact ⟨k + 1, by omega, by go_num, by rw [hnx.out]; exact HO5.out, (((hB.alloc hBs (.cells #[.int .i64 px, .int .i64 py, .int .i64 pt] 58)).alloc (by simp only [World.size_alloc]; omega) (.cells #[.int .i64 px, .int .i64 py, .int .i64 pt] 2)).alloc (by simp only [World.size_alloc]; omega) (.cells #[.int .i64 pt] 2)).grown HG5.out (by simp only [World.size_alloc]; omega) HV.out⟩
      case measure => (simp [intOf]; try omega)
    · obtain rfl : k = n := by omega
      have hall : Hid (colTk xs 2 k = colOf xs 2) := colTk_all (by rw [LA.out]; exact Nat.le_refl _)
      go_wp2_with fail
      go_ret
      exact ⟨⟨_, rfl, by rw [← hall.out]; exact HO.out⟩, hB⟩

theorem l04Column_any (b o : Nat) (A : Option Addr) (n c : Nat) (xs : List Pt) (i : Nat) (w : World) (hi : i < 3) (hcell : w.cell? ⟨b, o, none⟩ = some (.slice A n c)) (ha : Rd w A n 3 (rowOf ptC xs)) (la : xs.length = n) (hn : n ≤ 60) :
    Calls Tryz.prog 31 #[.pointer (some ⟨b, o, none⟩), .int .i64 (i : Int)] w fun e w' => (∃ v, e = .returned v ∧ Own iC 2 1 w' w.heap.size v (colOf xs i)) ∧ Below w.heap.size w w' := by
  match i, hi with
  | 0, _ => exact l04Column0_any b o A n c xs w hcell ha la hn
  | 1, _ => exact l04Column1_any b o A n c xs w hcell ha la hn
  | 2, _ => exact l04Column2_any b o A n c xs w hcell ha la hn

set_option maxHeartbeats 8000000 in
theorem l04List_any (A : Option Addr) (n c : Nat) (C : List Int) (w : World) (ha : Rd w A n 1 (rowOf iC C)) (la : C.length = n) (hs : smallN C) (hr : restP (resL C)) (hn : n ≤ 60) :
    Calls Tryz.prog 30 #[.slice A n c] w fun e w' => e = .returned (.string (bs (lstB C))) ∧ Below w.heap.size w w' := by
  have HA := Lib.hid ha
  have LA := Lib.hid la
  have hcr := Lib.hid hr
  have HS := Lib.hid hs
  clear ha la hr hs
  go_enter Tryz.func30, Tryz.ntmps30
  go_wp2_with fail
  refine (l04Residuals_any A n c C _ HA.out LA.out HS.out hn).mono ?_
  rintro e w2 ⟨⟨v, rfl, hown⟩, hb2⟩
  obtain ⟨A6, c6, hv, _, _, _⟩ := hown.rd
  rw [residTo_len] at hv
  subst hv
  obtain ⟨R, hR⟩ : ∃ R, resL C = R := ⟨_, rfl⟩
  have hRe : residTo C n = R := by rw [← hR]; unfold resL; rw [LA.out]
  have hRl : Hid (R.length = n) := by rw [Hid, ← hRe, residTo_len]
  rw [hRe] at hown
  have hcr2 := hcr.out
  rw [hR] at hcr2
  have HCR := Lib.hid hcr2
  obtain ⟨kk, hkk⟩ : ∃ kk, (bestTo R 12).1 = kk := ⟨_, rfl⟩
  have hpk : parK C = kk := by unfold parK; rw [hR]; exact hkk
  have hk12 : kk ≤ 12 := by rw [← hpk]; exact parK_le C
  have hkk0 : (0 : Int) ≤ (kk : Int) := by omega
  have R2 := Lib.hid (hown.rdS hRl.out)
  have hnext : Hid (∀ (j : Nat) (h : j < R.length), lstTo C (j + 1) = lstTo C j ++ riceL R[j] kk) := fun j h => by
    subst hR
    rw [← hpk]
    exact lstTo_next h
  have hlls : Hid (∀ j, j ≤ n → (lstTo C j).length ≤ 3124) := fun j h => lstTo_le hcr.out (by rw [LA.out]; exact hn) (by rw [LA.out]; exact h)
  have hlst0 : Hid (lstTo C 0 = numBits (kk : Int) 4) := by rw [Hid, lstTo_zero, hpk]
  have hB2 : Below w.heap.size w w2 := Below.next (by go_grown) hb2
  clear hown hcr2 hR hRe hpk hb2
  go_wp2_with fail
  refine (l04Best_any A6 n c6 R _ R2.out hRl.out HCR.out hn).mono ?_
  rintro e w3 ⟨rfl, hb3⟩
  have R3 := Lib.hid (R2.out.below hb3)
  have hB3 := Below.next hB2 hb3
  rw [hkk]
  clear hb3 hkk
  go_wp2_with fail
  refine (l04Number_any (kk : Int) 4 _ hkk0 (by omega) (by omega)).mono ?_
  rintro e w4 ⟨rfl, hb4⟩
  have R4 := Lib.hid (R3.out.below hb4)
  have hB4 := Below.next hB3 hb4
  clear hb4
  go_wp2_with fail
  go_loopw [6, 7] (fun v i wr => ∃ j : Nat, j ≤ n ∧ i = .int .i64 (j : Int) ∧ v = .string (bs (lstTo C j)) ∧ Below w.heap.size w wr ∧ Below w4.heap.size w4 wr) (fun _ i _ => n - (intOf i).toNat)
  case atStart => exact ⟨0, Nat.zero_le _, rfl, by rw [hlst0.out]; rfl, hB4, Below.refl _ _⟩
  case round =>
    obtain ⟨j, hj, rfl, rfl, hB, hBr⟩ := hrel
    by_cases hjq : j < n
    · have jl : j < R.length := by rw [hRl.out]; exact hjq
      obtain ⟨b4, o4, rfl, l4, hc4⟩ := (R4.out.below hBr).at iC_len hRl.out jl
      have c4 : wr.cell? ⟨b4, o4 + j, none⟩ = some (.int .i64 R[j]) := by simpa using hc4 0 _ rfl
      have HRJ := Lib.hid (HCR.out.at jl)
      have hnj := Lib.hid (hnext.out j jl)
      have hll := hlls.out j hj
      have hrl : (riceL R[j] kk).length ≤ 52 := riceN_le HRJ.out hk12
      have hj0 : (0 : Int) ≤ (j : Int) := by omega
      have hjn : (j : Int) < (n : Int) := by omega
      have g1 : (bs (lstTo C j)).size ≤ 3124 := by rw [bs_size]; exact hll
      have g2 : (⟨(riceL R[j] kk).toArray⟩ : ByteArray).size ≤ 52 := by rw [arr_size]; exact hrl
      have hfin : Hid (bs (lstTo C j) ++ ⟨(riceL R[j] kk).toArray⟩ = bs (lstTo C (j + 1))) := by
        rw [Hid, hnj.out, show (⟨(riceL R[j] kk).toArray⟩ : ByteArray) = bs (riceL R[j] kk) from rfl, bs_append]
      clear hc4
      go_wp2_with fail
      refine (l04Rice_any R[j] kk _ HRJ.out hk12).mono ?_
      rintro e w9 ⟨rfl, hb9⟩
      have hB9 := Below.next hB hb9
      have hBr9 := Below.next hBr hb9
      clear hb9
      go_wp2_with fail
      go_roundw
      case rel => exact ⟨j + 1, by omega, by go_num, by rw [hfin.out], hB9, hBr9⟩
      case measure => (simp [intOf]; try omega)
    · obtain rfl : j = n := by omega
      have hall : Hid (lstTo C j = lstB C) := by unfold lstB; rw [Hid, LA.out]
      go_wp2_with fail
      go_ret
      exact ⟨by rw [hall.out]; rfl, hB⟩
end Go.Proofs.YtinlhigpmchiaaaGreatDoor
