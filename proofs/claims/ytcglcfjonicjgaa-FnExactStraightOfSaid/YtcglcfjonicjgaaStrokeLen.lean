/-
  The length of a stroke: program and reference compute the same.
-/
import Derived.Test.YtcglcfjonicjgaaStrokePlain
import Derived.Test.YtcglcfjonicjgaaValidS
import Derived.Test.YtcglcfjonicjgaaOwn
namespace Go.Proofs.Ytcglcfjonicjgaa
set_option linter.unusedSimpArgs false
set_option linter.unusedVariables false
open Go.RowKit
open Go.ChangeShapes Go.WideShapes Go.Deep Go.Joins

/-- the lengths up to each of the first k points -/
def arcsTo (l : List Pt) (k : Nat) : List Int := (List.range k).map (sumTo l)
theorem arcsTo_len (l : List Pt) (k : Nat) : (arcsTo l k).length = k := by simp [arcsTo]
theorem arcsTo_at (l : List Pt) (k j : Nat) (h : j < (arcsTo l k).length) : (arcsTo l k)[j] = sumTo l j := by simp [arcsTo]
theorem arcsTo_next (l : List Pt) (k : Nat) : arcsTo l (k + 1) = arcsTo l k ++ [sumTo l k] := by simp [arcsTo, List.range_succ]

set_option maxHeartbeats 8000000 in
theorem arcsOf_any (A : Option Addr) (n c : Nat) (xs : List Pt) (w : World) (ha : Rd w A n 3 (rowOf ptC xs)) (la : xs.length = n) (hp : ptsB xs) (hn1 : 1 ≤ n) (hn60 : n ≤ 60) :
    Calls Try.prog 87 #[.agg #[.slice A n c]] w fun e w' => (∃ v, e = .returned v ∧ Own iC 2 1 w' (w.heap.size + 1) v (arcsTo xs n)) ∧ Below w.heap.size w w' := by
  have HA := Lib.hid ha
  have LA := Lib.hid la
  have HP := Lib.hid hp
  clear ha la hp
  go_enter Try.func87, Try.ntmps87
  go_wp2_with fail
  go_loopw [3, 4] (fun a i wr => ∃ j : Nat, j + 1 ≤ n ∧ i = .int .i64 ((j : Int) + 1) ∧ Own iC 2 1 wr (w.heap.size + 1) a (arcsTo xs (j + 1)) ∧ Below (w.heap.size + 1) (w.alloc (.cells #[.slice A n c] 35)) wr) (fun _ i _ => n - (intOf i).toNat)
  case atStart =>
    refine ⟨0, by omega, rfl, ?_, by go_grown⟩
    have hb := Bk.new1 w (.cells #[.slice A n c] 35) #[.int .i64 0] 2
    exact Own.of_bk (l := [0]) hb iC_len (by decide) (Nat.le_refl _)
  case round =>
    obtain ⟨j, hj, rfl, hown, hB⟩ := hrel
    have hcr : wr.cell? ⟨w.heap.size, 0, none⟩ = some (.slice A n c) := (hB.cell (p := ⟨w.heap.size, 0, none⟩) (by simp)).trans (by go_simp)
    have hBs := hB.size
    simp only [World.size_alloc] at hBs
    have hwr : w.heap.size < wr.heap.size := by omega
    have hW : Below w.heap.size w wr := ((Below.refl w.heap.size w).alloc (Nat.le_refl _) _).trans (hB.mono (by omega))
    have HAr := Lib.hid (HA.out.below hW)
    by_cases hlt : j + 1 < n
    · skip
      have ka : j < xs.length := by have := LA.out; omega
      obtain ⟨b1, o1, rfl, l1, a1, a2, a3⟩ := HAr.out.pt LA.out ka
      have kc : j + 1 < xs.length := by have := LA.out; omega
      obtain ⟨_, _, e0, _, c1, c2, c3⟩ := HAr.out.pt LA.out kc
      cases e0
      obtain ⟨g, cp, hv, hg1, hg2, hcell⟩ := hown.at iC_len (k := j) (by rw [arcsTo_len]; omega)
      rw [arcsTo_len] at hv
      have hcj : wr.cell? ⟨g, j, none⟩ = some (.int .i64 (sumTo xs j)) := by
        have := hcell 0 _ rfl
        rw [arcsTo_at] at this
        simpa using this
      subst hv
      have HO := Lib.hid hown
      clear hcell hown
      have hE1 : ptB xs[j] = true := HP.out j ka
      have hE2 : ptB xs[j + 1] = true := HP.out (j + 1) kc
      have hs0 := sumTo_bd HP.out j ka
      have hl0 := len_bd hE1 hE2
      have E1 := Lib.hid hE1
      have E2 := Lib.hid hE2
      have hn2 : Hid (sumTo xs (j + 1) = sumTo xs j + lenI xs[j] xs[j + 1]) := sumTo_next kc
      have hwj : IntKind.i64.wrap (j : Int) = (j : Int) := IntWalk.i64_in _ (by omega)
      have hj0 : (0 : Int) ≤ (j : Int) := by omega
      have hj1 : (0 : Int) ≤ (j : Int) + 1 := by omega
      have hjn : (j : Int) < (n : Int) := by omega
      have hjn1 : (j : Int) + 1 < (n : Int) := by omega
      have hjj : (j : Int) < (j : Int) + 1 := by omega
      have hjt : ((j : Int) + 1).toNat = j + 1 := by omega
      have hws : IntKind.i64.wrap (sumTo xs j + lenI xs[j] xs[j + 1]) = sumTo xs j + lenI xs[j] xs[j + 1] := IntWalk.i64_in _ (by omega)
      obtain ⟨_, _, e0, hb1, _⟩ := HA.out.pt LA.out ka
      cases e0
      have hne1 : ¬ w.heap.size = g := by omega
      have hne2 : ¬ b1 = g := by omega
      clear hE1 hE2
      go_wp2_with fail
      refine wp_region_held_drew (S := (fun w' => (∀ kb ko, kb < wr.heap.size → (kb = g → ko < j + 1) → w'.cell? ⟨kb, ko, none⟩ = wr.cell? ⟨kb, ko, none⟩) ∧ wr.heap.size ≤ w'.heap.size ∧ Below (w.heap.size + 1) wr w')) (by kernel_rfl) ?_ (fun hHeld => ?_)
      · (try dsimp only); exact SA.mk ((Below.refl _ _).drew) (by omega)
      first | (refine take_on (i := 0) (v := ?_) rfl (by kernel_rfl) (by kernel_rfl) (by kernel_rfl) (fun _ _ _ h => h) rfl ?_ (by assumption) ?_; rotate_left; · (intro w' hSw; (try dsimp only at hSw); go_simp; (try with_reducible rfl))) | (refine take_off (i := 0) rfl (by kernel_rfl) (by kernel_rfl) (by kernel_rfl) (fun _ _ _ h => h) rfl (by assumption) ?_)
      (try simp only [Act.put, List.setIfInBounds_toArray, List.set_cons_zero, List.set_cons_succ])
      first | (refine take_on (i := 1) (v := ?_) rfl (by kernel_rfl) (by kernel_rfl) (by kernel_rfl) (fun _ _ _ h => h) rfl ?_ (by assumption) ?_; rotate_left; · (intro w' hSw; (try dsimp only at hSw); go_simp; (try with_reducible rfl))) | (refine take_off (i := 1) rfl (by kernel_rfl) (by kernel_rfl) (by kernel_rfl) (fun _ _ _ h => h) rfl (by assumption) ?_)
      (try simp only [Act.put, List.setIfInBounds_toArray, List.set_cons_zero, List.set_cons_succ])
      first | (refine take_on (i := 2) (v := ?_) rfl (by kernel_rfl) (by kernel_rfl) (by kernel_rfl) (fun _ _ _ h => h) rfl ?_ (by assumption) ?_; rotate_left; · (intro w' hSw; (try dsimp only at hSw); go_simp; (try with_reducible rfl))) | (refine take_off (i := 2) rfl (by kernel_rfl) (by kernel_rfl) (by kernel_rfl) (fun _ _ _ h => h) rfl (by assumption) ?_)
      (try simp only [Act.put, List.setIfInBounds_toArray, List.set_cons_zero, List.set_cons_succ])
      first | (refine take_on (i := 3) (v := ?_) rfl (by kernel_rfl) (by kernel_rfl) (by kernel_rfl) (fun _ _ _ h => h) rfl ?_ (by assumption) ?_; rotate_left; · (intro w' hSw; (try dsimp only at hSw); go_simp; (try with_reducible rfl))) | (refine take_off (i := 3) rfl (by kernel_rfl) (by kernel_rfl) (by kernel_rfl) (fun _ _ _ h => h) rfl (by assumption) ?_)
      (try simp only [Act.put, List.setIfInBounds_toArray, List.set_cons_zero, List.set_cons_succ])
      first | (refine take_on (i := 4) (v := ?_) rfl (by kernel_rfl) (by kernel_rfl) (by kernel_rfl) (fun _ _ _ h => h) rfl ?_ (by assumption) ?_; rotate_left; · (intro w' hSw; (try dsimp only at hSw); go_simp; (try with_reducible rfl))) | (refine take_off (i := 4) rfl (by kernel_rfl) (by kernel_rfl) (by kernel_rfl) (fun _ _ _ h => h) rfl (by assumption) ?_)
      (try simp only [Act.put, List.setIfInBounds_toArray, List.set_cons_zero, List.set_cons_succ])
      first | (refine take_on (i := 5) (v := ?_) rfl (by kernel_rfl) (by kernel_rfl) (by kernel_rfl) (fun _ _ _ h => h) rfl ?_ (by assumption) ?_; rotate_left; · (intro w' hSw; (try dsimp only at hSw); go_simp; (try with_reducible rfl))) | (refine take_off (i := 5) rfl (by kernel_rfl) (by kernel_rfl) (by kernel_rfl) (fun _ _ _ h => h) rfl (by assumption) ?_)
      (try simp only [Act.put, List.setIfInBounds_toArray, List.set_cons_zero, List.set_cons_succ])
      first | (refine take_on (i := 6) (v := ?_) rfl (by kernel_rfl) (by kernel_rfl) (by kernel_rfl) (fun _ _ _ h => h) rfl ?_ (by assumption) ?_; rotate_left; · (intro w' hSw; (try dsimp only at hSw); go_simp; (try with_reducible rfl))) | (refine take_off (i := 6) rfl (by kernel_rfl) (by kernel_rfl) (by kernel_rfl) (fun _ _ _ h => h) rfl (by assumption) ?_)
      (try simp only [Act.put, List.setIfInBounds_toArray, List.set_cons_zero, List.set_cons_succ])
      first | (refine take_on (i := 7) (v := ?_) rfl (by kernel_rfl) (by kernel_rfl) (by kernel_rfl) (fun _ _ _ h => h) rfl ?_ (by assumption) ?_; rotate_left; · (intro w' hSw; (try dsimp only at hSw); go_simp; (try with_reducible rfl))) | (refine take_off (i := 7) rfl (by kernel_rfl) (by kernel_rfl) (by kernel_rfl) (fun _ _ _ h => h) rfl (by assumption) ?_)
      (try simp only [Act.put, List.setIfInBounds_toArray, List.set_cons_zero, List.set_cons_succ])
      first | (refine take_on (i := 8) (v := ?_) rfl (by kernel_rfl) (by kernel_rfl) (by kernel_rfl) (fun _ _ _ h => h) rfl ?_ (by assumption) ?_; rotate_left; · (intro w' hSw; (try dsimp only at hSw); go_simp; (try with_reducible rfl))) | (refine take_off (i := 8) rfl (by kernel_rfl) (by kernel_rfl) (by kernel_rfl) (fun _ _ _ h => h) rfl (by assumption) ?_)
      (try simp only [Act.put, List.setIfInBounds_toArray, List.set_cons_zero, List.set_cons_succ])
      first | (refine take_on (i := 9) (v := ?_) rfl (by kernel_rfl) (by kernel_rfl) (by kernel_rfl) (fun _ _ _ h => h) rfl ?_ (by assumption) ?_; rotate_left; · (intro w' hSw; (try dsimp only at hSw); go_simp; (try with_reducible rfl))) | (refine take_off (i := 9) rfl (by kernel_rfl) (by kernel_rfl) (by kernel_rfl) (fun _ _ _ h => h) rfl (by assumption) ?_)
      (try simp only [Act.put, List.setIfInBounds_toArray, List.set_cons_zero, List.set_cons_succ])
      first | (refine take_on (i := 10) (v := ?_) rfl (by kernel_rfl) (by kernel_rfl) (by kernel_rfl) (fun _ _ _ h => h) rfl ?_ (by assumption) ?_; rotate_left; · (intro w' hSw; (try dsimp only at hSw); go_simp; (try with_reducible rfl))) | (refine take_off (i := 10) rfl (by kernel_rfl) (by kernel_rfl) (by kernel_rfl) (fun _ _ _ h => h) rfl (by assumption) ?_)
      (try simp only [Act.put, List.setIfInBounds_toArray, List.set_cons_zero, List.set_cons_succ])
      first | (refine take_on (i := 11) (v := ?_) rfl (by kernel_rfl) (by kernel_rfl) (by kernel_rfl) (fun _ _ _ h => h) rfl ?_ (by assumption) ?_; rotate_left; · (intro w' hSw; (try dsimp only at hSw); go_simp; (try with_reducible rfl))) | (refine take_off (i := 11) rfl (by kernel_rfl) (by kernel_rfl) (by kernel_rfl) (fun _ _ _ h => h) rfl (by assumption) ?_)
      (try simp only [Act.put, List.setIfInBounds_toArray, List.set_cons_zero, List.set_cons_succ])
      first | (refine take_on (i := 12) (v := ?_) rfl (by kernel_rfl) (by kernel_rfl) (by kernel_rfl) (fun _ _ _ h => h) rfl ?_ (by assumption) ?_; rotate_left; · (intro w' hSw; (try dsimp only at hSw); go_simp; (try with_reducible rfl))) | (refine take_off (i := 12) rfl (by kernel_rfl) (by kernel_rfl) (by kernel_rfl) (fun _ _ _ h => h) rfl (by assumption) ?_)
      (try simp only [Act.put, List.setIfInBounds_toArray, List.set_cons_zero, List.set_cons_succ])
      first | (refine take_on (i := 13) (v := ?_) rfl (by kernel_rfl) (by kernel_rfl) (by kernel_rfl) (fun _ _ _ h => h) rfl ?_ (by assumption) ?_; rotate_left; · (intro w' hSw; (try dsimp only at hSw); go_simp; (try with_reducible rfl))) | (refine take_off (i := 13) rfl (by kernel_rfl) (by kernel_rfl) (by kernel_rfl) (fun _ _ _ h => h) rfl (by assumption) ?_)
      (try simp only [Act.put, List.setIfInBounds_toArray, List.set_cons_zero, List.set_cons_succ])
      first | (refine take_on (i := 14) (v := ?_) rfl (by kernel_rfl) (by kernel_rfl) (by kernel_rfl) (fun _ _ _ h => h) rfl ?_ (by assumption) ?_; rotate_left; · (intro w' hSw; (try dsimp only at hSw); go_simp; (try with_reducible rfl))) | (refine take_off (i := 14) rfl (by kernel_rfl) (by kernel_rfl) (by kernel_rfl) (fun _ _ _ h => h) rfl (by assumption) ?_)
      (try simp only [Act.put, List.setIfInBounds_toArray, List.set_cons_zero, List.set_cons_succ])
      first | (refine take_on (i := 15) (v := ?_) rfl (by kernel_rfl) (by kernel_rfl) (by kernel_rfl) (fun _ _ _ h => h) rfl ?_ (by assumption) ?_; rotate_left; · (intro w' hSw; (try dsimp only at hSw); go_simp; (try with_reducible rfl))) | (refine take_off (i := 15) rfl (by kernel_rfl) (by kernel_rfl) (by kernel_rfl) (fun _ _ _ h => h) rfl (by assumption) ?_)
      (try simp only [Act.put, List.setIfInBounds_toArray, List.set_cons_zero, List.set_cons_succ])
      first | (refine take_on (i := 16) (v := ?_) rfl (by kernel_rfl) (by kernel_rfl) (by kernel_rfl) (fun _ _ _ h => h) rfl ?_ (by assumption) ?_; rotate_left; · (intro w' hSw; (try dsimp only at hSw); go_simp; (try with_reducible rfl))) | (refine take_off (i := 16) rfl (by kernel_rfl) (by kernel_rfl) (by kernel_rfl) (fun _ _ _ h => h) rfl (by assumption) ?_)
      (try simp only [Act.put, List.setIfInBounds_toArray, List.set_cons_zero, List.set_cons_succ])
      refine wpAnyH_ready (rs := [17]) (by kernel_rfl) (by simp) ?_
      refine AllReadyH.cons rfl (fun K hK => ?_) AllReadyH.nil
      rw [if_pos (by rfl)]
      go_simp
      go_at_call 76
      refine (lengthOf_any xs[j] xs[j + 1] _ E1.out E2.out).mono ?_
      rintro e w4 ⟨rfl, hb4⟩
      have hB4 : Below wr.heap.size wr w4 := Below.next (by go_grown) hb4
      have hz4 := hB4.size
      have HO4 := Lib.hid (HO.out.next hB4)
      refine hK.out _ _ ?_ (fun hHeld2 => ?_)
      · (try dsimp only); exact SA.mk hB4 (by omega)
      clear hK K hHeld; have hHeld := hHeld2; clear hHeld2; (try simp only [Act.put, List.setIfInBounds_toArray, List.set_cons_zero, List.set_cons_succ])
      first | (refine take_on (i := 18) (v := ?_) rfl (by kernel_rfl) (by kernel_rfl) (by kernel_rfl) (fun _ _ _ h => h) rfl ?_ (by assumption) ?_; rotate_left; · (intro w' hSw; (try dsimp only at hSw); go_simp; (try with_reducible rfl))) | (refine take_off (i := 18) rfl (by kernel_rfl) (by kernel_rfl) (by kernel_rfl) (fun _ _ _ h => h) rfl (by assumption) ?_)
      (try simp only [Act.put, List.setIfInBounds_toArray, List.set_cons_zero, List.set_cons_succ])
      refine wpAnyH_ready (rs := [19]) (by kernel_rfl) (by simp) ?_
      refine AllReadyH.cons rfl (fun K hK => ?_) AllReadyH.nil
      rw [if_pos (by rfl)]
      go_simp
      refine hK.out _ _ ?_ (fun hHeld2 => ?_)
      · (try dsimp only); exact SA.mk (by go_grown) (by omega)
      clear hK K hHeld; have hHeld := hHeld2; clear hHeld2; (try simp only [Act.put, List.setIfInBounds_toArray, List.set_cons_zero, List.set_cons_succ])
      refine wpAnyH_ready (rs := [20]) (by kernel_rfl) (by simp) ?_
      refine AllReadyH.cons rfl (fun K hK => ?_) AllReadyH.nil
      refine step_push elem_int (by rfl) (.tmp 13) (.tmp 32) 57 (by rfl) Try.underlying57 (w.heap.size + 1) _ (arcsTo xs (j + 1)) (sumTo xs j + lenI xs[j] xs[j + 1]) (by rfl) (HO4.out.alloc _) (j + 1) (arcsTo_len _ _) w4.heap.size 1 (by rfl) ?hB (by unfold maxLen; omega) (by omega) (by simp only [World.size_alloc]; omega) ?_
      case hB =>
        intro i u hu
        rw [(Bk.new w4 #[.int .i64 (sumTo xs j + lenI xs[j] xs[j + 1])] 2).cell i]
        simpa [iC] using hu
      intro g5 cap5 w5 hown5 hgrow5 hat5 hlt5 hkeep5
      refine hK.out _ _ ?_ (fun hHeld2 => ?_)
      · (try dsimp only); exact SA.push hHeld rfl hgrow5 hkeep5 (by omega) (by omega) (by simp only [World.size_alloc]; omega)
      clear hK K hHeld; have hHeld := hHeld2; clear hHeld2; (try simp only [Act.put, List.setIfInBounds_toArray, List.set_cons_zero, List.set_cons_succ])
      first | (refine take_on (i := 21) (v := ?_) rfl (by kernel_rfl) (by kernel_rfl) (by kernel_rfl) (fun _ _ _ h => h) rfl ?_ (by assumption) ?_; rotate_left; · (intro w' hSw; (try dsimp only at hSw); go_simp; (try with_reducible rfl))) | (refine take_off (i := 21) rfl (by kernel_rfl) (by kernel_rfl) (by kernel_rfl) (fun _ _ _ h => h) rfl (by assumption) ?_)
      (try simp only [Act.put, List.setIfInBounds_toArray, List.set_cons_zero, List.set_cons_succ])
      refine wpAnyH_done (by kernel_rfl) ?_ _
      have hS := hHeld.2.2
      clear hHeld
      go_wp2_with fail
      go_roundw
      case rel => exact ⟨j + 1, by omega, by go_num, by rw [arcsTo_next xs (j + 1), hn2.out]; exact hown5, hB.trans hS⟩
      case measure => simp [intOf]; omega
    · go_wp2_with fail
      go_ret
      obtain rfl : n = j + 1 := by omega
      exact ⟨⟨_, rfl, hown⟩, hW⟩

set_option maxHeartbeats 4000000 in
theorem strokeLength_any (A : Option Addr) (n c : Nat) (xs : List Pt) (w : World) (ha : Rd w A n 3 (rowOf ptC xs)) (la : xs.length = n) (hp : ptsB xs) (hn1 : 1 ≤ n) (hn60 : n ≤ 60) :
    Calls Try.prog 72 #[.agg #[.slice A n c]] w fun e w' => e = .returned (.int .i64 (sumTo xs (n - 1))) ∧ Below w.heap.size w w' := by
  obtain ⟨m, rfl⟩ : ∃ m, n = m + 1 := ⟨n - 1, by omega⟩
  simp only [Nat.add_sub_cancel]
  have HA := Lib.hid ha
  have LA := Lib.hid la
  clear ha la
  go_enter Try.func72, Try.ntmps72
  go_wp2_with fail
  refine (arcsOf_any A (m + 1) c xs _ (HA.out.alloc _) LA.out hp (by omega) hn60).mono ?_
  rintro e w2 ⟨⟨v, rfl, hown⟩, hb⟩
  have hT : Below w.heap.size w w2 := Below.next (by go_grown) hb
  obtain ⟨g, cp, hv, hg1, hg2, hcell⟩ := hown.at iC_len (k := m) (by rw [arcsTo_len]; omega)
  rw [arcsTo_len] at hv
  have hcm : w2.cell? ⟨g, m, none⟩ = some (.int .i64 (sumTo xs m)) := by
    have := hcell 0 _ rfl
    rw [arcsTo_at] at this
    simpa using this
  subst hv
  clear hcell hown
  have hm0 : (0 : Int) ≤ (m : Int) := by omega
  go_wp2_with fail
  go_ret
  exact ⟨rfl, by go_grown⟩

set_option maxHeartbeats 4000000 in
theorem l05Sum_any (b : Nat) (A : Option Addr) (n c : Nat) (xs : List Pt) (w : World) (hcs0 : w.cell? ⟨b, 0, none⟩ = some (.slice A n c)) (ha : Rd w A n 3 (rowOf ptC xs)) (la : xs.length = n) (hp : ptsB xs) (hn1 : 1 ≤ n) (hn60 : n ≤ 60) :
    Calls Try.prog 71 #[.pointer (some ⟨b, 0, none⟩)] w fun e w' => e = .returned (.int .i64 (sumTo xs (n - 1))) ∧ Below w.heap.size w w' := by
  have hb0 : b < w.heap.size := block_lt_of_cell hcs0
  have HA := Lib.hid ha
  have LA := Lib.hid la
  have HP := Lib.hid hp
  clear ha la hp
  go_enter Try.func71, Try.ntmps71
  go_wp2_with fail
  go_loopw [3, 4] (fun a i wr => ∃ j : Nat, j + 1 ≤ n ∧ i = .int .i64 ((j : Int) + 1) ∧ a = .int .i64 (sumTo xs j) ∧ Below w.heap.size w wr) (fun _ i _ => n - (intOf i).toNat)
  case atStart => exact ⟨0, by omega, rfl, rfl, Below.refl _ _⟩
  case round =>
    obtain ⟨j, hj, rfl, rfl, hB⟩ := hrel
    have hcr : wr.cell? ⟨b, 0, none⟩ = some (.slice A n c) := (hB.cell (p := ⟨b, 0, none⟩) hb0).trans hcs0
    have hBs := hB.size
    have hwr : b < wr.heap.size := by omega
    have HAr := Lib.hid (HA.out.below hB)
    by_cases hlt : j + 1 < n
    · skip
      have ka : j < xs.length := by have := LA.out; omega
      obtain ⟨b1, o1, rfl, l1, a1, a2, a3⟩ := HAr.out.pt LA.out ka
      have kc : j + 1 < xs.length := by have := LA.out; omega
      obtain ⟨_, _, e0, _, c1, c2, c3⟩ := HAr.out.pt LA.out kc
      cases e0
      have hE1 : ptB xs[j] = true := HP.out j ka
      have hE2 : ptB xs[j + 1] = true := HP.out (j + 1) kc
      have hs0 := sumTo_bd HP.out j ka
      have hl0 := len_bd hE1 hE2
      have E1 := Lib.hid hE1
      have E2 := Lib.hid hE2
      have hn2 : Hid (sumTo xs (j + 1) = sumTo xs j + lenI xs[j] xs[j + 1]) := sumTo_next kc
      have hwj : IntKind.i64.wrap (j : Int) = (j : Int) := IntWalk.i64_in _ (by omega)
      have hj0 : (0 : Int) ≤ (j : Int) := by omega
      have hj1 : (0 : Int) ≤ (j : Int) + 1 := by omega
      have hjn : (j : Int) < (n : Int) := by omega
      have hjn1 : (j : Int) + 1 < (n : Int) := by omega
      have hjt : ((j : Int) + 1).toNat = j + 1 := by omega
      have hws : IntKind.i64.wrap (sumTo xs j + lenI xs[j] xs[j + 1]) = sumTo xs j + lenI xs[j] xs[j + 1] := IntWalk.i64_in _ (by omega)
      clear hE1 hE2
      go_wp2_with fail
      refine wp_region_held_drew (S := (fun w' => (∀ kb ko, kb < wr.heap.size → w'.cell? ⟨kb, ko, none⟩ = wr.cell? ⟨kb, ko, none⟩) ∧ wr.heap.size ≤ w'.heap.size ∧ Below wr.heap.size wr w')) (by kernel_rfl) ?_ (fun hHeld => ?_)
      · (try dsimp only); (first | exact SB.mk hkB | exact SB.mk ((Below.refl _ _).drew) | (go_split_ands; refine SB.mk (Below.drew ?_); assumption) | (refine SB.mk ?_; go_grown; done) | (go_split_ands; refine SB.mk ?_; go_grown; done))
      first | (refine take_on (i := 0) (v := ?_) rfl (by kernel_rfl) (by kernel_rfl) (by kernel_rfl) (fun _ _ _ h => h) rfl ?_ (by assumption) ?_; rotate_left; · (intro w' hSw; (try dsimp only at hSw); go_simp; (try with_reducible rfl))) | (refine take_off (i := 0) rfl (by kernel_rfl) (by kernel_rfl) (by kernel_rfl) (fun _ _ _ h => h) rfl (by assumption) ?_)
      (try simp only [Act.put, List.setIfInBounds_toArray, List.set_cons_zero, List.set_cons_succ])
      first | (refine take_on (i := 1) (v := ?_) rfl (by kernel_rfl) (by kernel_rfl) (by kernel_rfl) (fun _ _ _ h => h) rfl ?_ (by assumption) ?_; rotate_left; · (intro w' hSw; (try dsimp only at hSw); go_simp; (try with_reducible rfl))) | (refine take_off (i := 1) rfl (by kernel_rfl) (by kernel_rfl) (by kernel_rfl) (fun _ _ _ h => h) rfl (by assumption) ?_)
      (try simp only [Act.put, List.setIfInBounds_toArray, List.set_cons_zero, List.set_cons_succ])
      first | (refine take_on (i := 2) (v := ?_) rfl (by kernel_rfl) (by kernel_rfl) (by kernel_rfl) (fun _ _ _ h => h) rfl ?_ (by assumption) ?_; rotate_left; · (intro w' hSw; (try dsimp only at hSw); go_simp; (try with_reducible rfl))) | (refine take_off (i := 2) rfl (by kernel_rfl) (by kernel_rfl) (by kernel_rfl) (fun _ _ _ h => h) rfl (by assumption) ?_)
      (try simp only [Act.put, List.setIfInBounds_toArray, List.set_cons_zero, List.set_cons_succ])
      first | (refine take_on (i := 3) (v := ?_) rfl (by kernel_rfl) (by kernel_rfl) (by kernel_rfl) (fun _ _ _ h => h) rfl ?_ (by assumption) ?_; rotate_left; · (intro w' hSw; (try dsimp only at hSw); go_simp; (try with_reducible rfl))) | (refine take_off (i := 3) rfl (by kernel_rfl) (by kernel_rfl) (by kernel_rfl) (fun _ _ _ h => h) rfl (by assumption) ?_)
      (try simp only [Act.put, List.setIfInBounds_toArray, List.set_cons_zero, List.set_cons_succ])
      first | (refine take_on (i := 4) (v := ?_) rfl (by kernel_rfl) (by kernel_rfl) (by kernel_rfl) (fun _ _ _ h => h) rfl ?_ (by assumption) ?_; rotate_left; · (intro w' hSw; (try dsimp only at hSw); go_simp; (try with_reducible rfl))) | (refine take_off (i := 4) rfl (by kernel_rfl) (by kernel_rfl) (by kernel_rfl) (fun _ _ _ h => h) rfl (by assumption) ?_)
      (try simp only [Act.put, List.setIfInBounds_toArray, List.set_cons_zero, List.set_cons_succ])
      first | (refine take_on (i := 5) (v := ?_) rfl (by kernel_rfl) (by kernel_rfl) (by kernel_rfl) (fun _ _ _ h => h) rfl ?_ (by assumption) ?_; rotate_left; · (intro w' hSw; (try dsimp only at hSw); go_simp; (try with_reducible rfl))) | (refine take_off (i := 5) rfl (by kernel_rfl) (by kernel_rfl) (by kernel_rfl) (fun _ _ _ h => h) rfl (by assumption) ?_)
      (try simp only [Act.put, List.setIfInBounds_toArray, List.set_cons_zero, List.set_cons_succ])
      first | (refine take_on (i := 6) (v := ?_) rfl (by kernel_rfl) (by kernel_rfl) (by kernel_rfl) (fun _ _ _ h => h) rfl ?_ (by assumption) ?_; rotate_left; · (intro w' hSw; (try dsimp only at hSw); go_simp; (try with_reducible rfl))) | (refine take_off (i := 6) rfl (by kernel_rfl) (by kernel_rfl) (by kernel_rfl) (fun _ _ _ h => h) rfl (by assumption) ?_)
      (try simp only [Act.put, List.setIfInBounds_toArray, List.set_cons_zero, List.set_cons_succ])
      first | (refine take_on (i := 7) (v := ?_) rfl (by kernel_rfl) (by kernel_rfl) (by kernel_rfl) (fun _ _ _ h => h) rfl ?_ (by assumption) ?_; rotate_left; · (intro w' hSw; (try dsimp only at hSw); go_simp; (try with_reducible rfl))) | (refine take_off (i := 7) rfl (by kernel_rfl) (by kernel_rfl) (by kernel_rfl) (fun _ _ _ h => h) rfl (by assumption) ?_)
      (try simp only [Act.put, List.setIfInBounds_toArray, List.set_cons_zero, List.set_cons_succ])
      first | (refine take_on (i := 8) (v := ?_) rfl (by kernel_rfl) (by kernel_rfl) (by kernel_rfl) (fun _ _ _ h => h) rfl ?_ (by assumption) ?_; rotate_left; · (intro w' hSw; (try dsimp only at hSw); go_simp; (try with_reducible rfl))) | (refine take_off (i := 8) rfl (by kernel_rfl) (by kernel_rfl) (by kernel_rfl) (fun _ _ _ h => h) rfl (by assumption) ?_)
      (try simp only [Act.put, List.setIfInBounds_toArray, List.set_cons_zero, List.set_cons_succ])
      first | (refine take_on (i := 9) (v := ?_) rfl (by kernel_rfl) (by kernel_rfl) (by kernel_rfl) (fun _ _ _ h => h) rfl ?_ (by assumption) ?_; rotate_left; · (intro w' hSw; (try dsimp only at hSw); go_simp; (try with_reducible rfl))) | (refine take_off (i := 9) rfl (by kernel_rfl) (by kernel_rfl) (by kernel_rfl) (fun _ _ _ h => h) rfl (by assumption) ?_)
      (try simp only [Act.put, List.setIfInBounds_toArray, List.set_cons_zero, List.set_cons_succ])
      first | (refine take_on (i := 10) (v := ?_) rfl (by kernel_rfl) (by kernel_rfl) (by kernel_rfl) (fun _ _ _ h => h) rfl ?_ (by assumption) ?_; rotate_left; · (intro w' hSw; (try dsimp only at hSw); go_simp; (try with_reducible rfl))) | (refine take_off (i := 10) rfl (by kernel_rfl) (by kernel_rfl) (by kernel_rfl) (fun _ _ _ h => h) rfl (by assumption) ?_)
      (try simp only [Act.put, List.setIfInBounds_toArray, List.set_cons_zero, List.set_cons_succ])
      first | (refine take_on (i := 11) (v := ?_) rfl (by kernel_rfl) (by kernel_rfl) (by kernel_rfl) (fun _ _ _ h => h) rfl ?_ (by assumption) ?_; rotate_left; · (intro w' hSw; (try dsimp only at hSw); go_simp; (try with_reducible rfl))) | (refine take_off (i := 11) rfl (by kernel_rfl) (by kernel_rfl) (by kernel_rfl) (fun _ _ _ h => h) rfl (by assumption) ?_)
      (try simp only [Act.put, List.setIfInBounds_toArray, List.set_cons_zero, List.set_cons_succ])
      first | (refine take_on (i := 12) (v := ?_) rfl (by kernel_rfl) (by kernel_rfl) (by kernel_rfl) (fun _ _ _ h => h) rfl ?_ (by assumption) ?_; rotate_left; · (intro w' hSw; (try dsimp only at hSw); go_simp; (try with_reducible rfl))) | (refine take_off (i := 12) rfl (by kernel_rfl) (by kernel_rfl) (by kernel_rfl) (fun _ _ _ h => h) rfl (by assumption) ?_)
      (try simp only [Act.put, List.setIfInBounds_toArray, List.set_cons_zero, List.set_cons_succ])
      first | (refine take_on (i := 13) (v := ?_) rfl (by kernel_rfl) (by kernel_rfl) (by kernel_rfl) (fun _ _ _ h => h) rfl ?_ (by assumption) ?_; rotate_left; · (intro w' hSw; (try dsimp only at hSw); go_simp; (try with_reducible rfl))) | (refine take_off (i := 13) rfl (by kernel_rfl) (by kernel_rfl) (by kernel_rfl) (fun _ _ _ h => h) rfl (by assumption) ?_)
      (try simp only [Act.put, List.setIfInBounds_toArray, List.set_cons_zero, List.set_cons_succ])
      first | (refine take_on (i := 14) (v := ?_) rfl (by kernel_rfl) (by kernel_rfl) (by kernel_rfl) (fun _ _ _ h => h) rfl ?_ (by assumption) ?_; rotate_left; · (intro w' hSw; (try dsimp only at hSw); go_simp; (try with_reducible rfl))) | (refine take_off (i := 14) rfl (by kernel_rfl) (by kernel_rfl) (by kernel_rfl) (fun _ _ _ h => h) rfl (by assumption) ?_)
      (try simp only [Act.put, List.setIfInBounds_toArray, List.set_cons_zero, List.set_cons_succ])
      first | (refine take_on (i := 15) (v := ?_) rfl (by kernel_rfl) (by kernel_rfl) (by kernel_rfl) (fun _ _ _ h => h) rfl ?_ (by assumption) ?_; rotate_left; · (intro w' hSw; (try dsimp only at hSw); go_simp; (try with_reducible rfl))) | (refine take_off (i := 15) rfl (by kernel_rfl) (by kernel_rfl) (by kernel_rfl) (fun _ _ _ h => h) rfl (by assumption) ?_)
      (try simp only [Act.put, List.setIfInBounds_toArray, List.set_cons_zero, List.set_cons_succ])
      refine wpAnyH_ready (rs := [16]) (by kernel_rfl) (by simp) ?_
      refine AllReadyH.cons rfl (fun K hK => ?_) AllReadyH.nil
      rw [if_pos (by rfl)]
      go_simp
      first | (go_at_call 86; (with_reducible refine (l05Length_any xs[j] xs[j + 1] _ E1.out E2.out).mono ?_); rintro e w' ⟨rfl, hb⟩; obtain ⟨_, hks, hkB⟩ := SB.next (by assumption) hb; obtain ⟨hkc, hkf⟩ := bcell hb; have hkz := hb.size; (try simp only [World.size_alloc, World.size_drew] at hkz); (first | (have hkt := Nat.lt_of_succ_le hkz) | (have hkt := Nat.lt_of_lt_of_le (by assumption) hkz) | skip); clear hb)
      refine hK.out _ _ ?_ (fun hHeld2 => ?_)
      · (try dsimp only); (first | exact SB.mk hkB | exact SB.mk ((Below.refl _ _).drew) | (go_split_ands; refine SB.mk (Below.drew ?_); assumption) | (refine SB.mk ?_; go_grown; done) | (go_split_ands; refine SB.mk ?_; go_grown; done))
      clear hK K hHeld; have hHeld := hHeld2; clear hHeld2; (try simp only [Act.put, List.setIfInBounds_toArray, List.set_cons_zero, List.set_cons_succ])
      first | (refine take_on (i := 17) (v := ?_) rfl (by kernel_rfl) (by kernel_rfl) (by kernel_rfl) (fun _ _ _ h => h) rfl ?_ (by assumption) ?_; rotate_left; · (intro w' hSw; (try dsimp only at hSw); go_simp; (try with_reducible rfl))) | (refine take_off (i := 17) rfl (by kernel_rfl) (by kernel_rfl) (by kernel_rfl) (fun _ _ _ h => h) rfl (by assumption) ?_)
      (try simp only [Act.put, List.setIfInBounds_toArray, List.set_cons_zero, List.set_cons_succ])
      first | (refine take_on (i := 18) (v := ?_) rfl (by kernel_rfl) (by kernel_rfl) (by kernel_rfl) (fun _ _ _ h => h) rfl ?_ (by assumption) ?_; rotate_left; · (intro w' hSw; (try dsimp only at hSw); go_simp; (try with_reducible rfl))) | (refine take_off (i := 18) rfl (by kernel_rfl) (by kernel_rfl) (by kernel_rfl) (fun _ _ _ h => h) rfl (by assumption) ?_)
      (try simp only [Act.put, List.setIfInBounds_toArray, List.set_cons_zero, List.set_cons_succ])
      refine wpAnyH_done (by kernel_rfl) ?_ _
      go_split_ands
      clear hwj hjt hws
      go_wp2_with fail
      go_roundw
      case rel => exact ⟨j + 1, by omega, by go_num, by rw [hn2.out], Below.next hB (by assumption)⟩
      case measure => simp [intOf]; omega
    · go_wp2_with fail
      go_ret
      obtain rfl : n = j + 1 := by omega
      exact ⟨rfl, hB⟩

def lengthROk (l : List Pt) : Int × Int := (sumTo l (l.length - 1), 0)
def lengthR (l : List Pt) : Int × Int := if strB l = true then lengthROk l else (0, 1)

set_option maxHeartbeats 4000000 in
theorem iStrokeLength (A : Option Addr) (n c : Nat) (xs : List Pt) (w : World) (ha : Rd w A n 3 (rowOf ptC xs)) (la : xs.length = n) (hn : n ≤ 1048576) :
    Calls Try.prog 40 #[.agg #[.slice A n c]] w fun e w' => e = .returned (.tuple #[.int .i64 (lengthR xs).1, .int .i64 (lengthR xs).2]) ∧ Below w.heap.size w w' := by
  have hR : Hid (lengthR xs = if strB xs = true then lengthROk xs else (0, 1)) := rfl
  have HV := validStroke_any A n c xs (w.alloc (.cells #[.slice A n c] 35)) (ha.alloc _) la hn
  cases h1 : strB xs
  · rw [h1] at HV
    have H1 := Lib.hid h1
    clear h1
    go_enter Try.func40, Try.ntmps40
    go_wp2_with fail
    refine HV.mono ?_
    rintro e w2 ⟨rfl, hb⟩
    go_wp2_with fail
    go_ret2
    exact ⟨by rw [hR.out, H1.out]; rfl, Below.next (by go_grown) hb⟩
  · rw [h1] at HV
    have H1 := Lib.hid h1
    obtain ⟨hn1, hn60, hpt, htt⟩ := strB_true h1
    have HP : Hid (ptsB xs) := hpt
    have HT := Lib.hid htt
    rw [la] at hn1 hn60
    have HA0 := Lib.hid (ha.alloc (.cells #[.slice A n c] 35))
    have LA := Lib.hid la
    replace hR : Hid (lengthR xs = lengthROk xs) := by rw [Hid, hR.out, h1]; rfl
    clear h1 hpt htt ha la
    go_enter Try.func40, Try.ntmps40
    go_wp2_with fail
    refine HV.mono ?_
    rintro e w2 ⟨rfl, hb⟩
    clear HV
    have hcs : w2.cell? ⟨w.heap.size, 0, none⟩ = some (.slice A n c) := (hb.cell (p := ⟨w.heap.size, 0, none⟩) (by simp)).trans (by go_simp)
    have hws : w.heap.size < w2.heap.size := by have := hb.size; simp at this; omega
    have HA := Lib.hid (HA0.out.below hb)
    have hT : Below w.heap.size w w2 := Below.next (by go_grown) hb
    clear HA0 hb
    go_wp2_with fail
    refine (strokeLength_any A n c xs _ HA.out LA.out HP.out hn1 hn60).mono ?_
    rintro e w3 ⟨rfl, hb3⟩
    go_wp2_with fail
    go_ret2
    exact ⟨by rw [hR.out, lengthROk, LA.out]; rfl, Below.next hT hb3⟩
set_option maxHeartbeats 4000000 in
theorem sStrokeLength (A : Option Addr) (n c : Nat) (xs : List Pt) (w : World) (ha : Rd w A n 3 (rowOf ptC xs)) (la : xs.length = n) (hn : n ≤ 1048576) :
    Calls Try.prog 39 #[.agg #[.slice A n c]] w fun e w' => e = .returned (.tuple #[.int .i64 (lengthR xs).1, .int .i64 (lengthR xs).2]) ∧ Below w.heap.size w w' := by
  have hR : Hid (lengthR xs = if strB xs = true then lengthROk xs else (0, 1)) := rfl
  have HV := l02Stroke_any w.heap.size A n c xs (w.alloc (.cells #[.slice A n c] 35)) (by go_simp) (ha.alloc _) la hn
  cases h1 : strB xs
  · rw [h1] at HV
    have H1 := Lib.hid h1
    clear h1
    go_enter Try.func39, Try.ntmps39
    go_wp2_with fail
    refine HV.mono ?_
    rintro e w2 ⟨rfl, hb⟩
    go_wp2_with fail
    go_ret2
    exact ⟨by rw [hR.out, H1.out]; rfl, Below.next (by go_grown) hb⟩
  · rw [h1] at HV
    have H1 := Lib.hid h1
    obtain ⟨hn1, hn60, hpt, htt⟩ := strB_true h1
    have HP : Hid (ptsB xs) := hpt
    have HT := Lib.hid htt
    rw [la] at hn1 hn60
    have HA0 := Lib.hid (ha.alloc (.cells #[.slice A n c] 35))
    have LA := Lib.hid la
    replace hR : Hid (lengthR xs = lengthROk xs) := by rw [Hid, hR.out, h1]; rfl
    clear h1 hpt htt ha la
    go_enter Try.func39, Try.ntmps39
    go_wp2_with fail
    refine HV.mono ?_
    rintro e w2 ⟨rfl, hb⟩
    clear HV
    have hcs : w2.cell? ⟨w.heap.size, 0, none⟩ = some (.slice A n c) := (hb.cell (p := ⟨w.heap.size, 0, none⟩) (by simp)).trans (by go_simp)
    have hws : w.heap.size < w2.heap.size := by have := hb.size; simp at this; omega
    have HA := Lib.hid (HA0.out.below hb)
    have hT : Below w.heap.size w w2 := Below.next (by go_grown) hb
    clear HA0 hb
    go_wp2_with fail
    refine (l05Sum_any w.heap.size A n c xs _ hcs HA.out LA.out HP.out hn1 hn60).mono ?_
    rintro e w3 ⟨rfl, hb3⟩
    go_wp2_with fail
    go_ret2
    exact ⟨by rw [hR.out, lengthROk, LA.out]; rfl, Below.next hT hb3⟩
end Go.Proofs.Ytcglcfjonicjgaa
