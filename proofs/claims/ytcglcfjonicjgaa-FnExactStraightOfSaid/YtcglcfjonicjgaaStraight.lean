/-
  How straight a stroke is: program and reference compute the same.
-/
import Derived.Test.YtcglcfjonicjgaaStrokeLen
import Derived.Test.YtcglcfjonicjgaaBoxOf
namespace Go.Proofs.Ytcglcfjonicjgaa
set_option linter.unusedSimpArgs false
set_option linter.unusedVariables false
open Go.RowKit
open Go.ChangeShapes Go.WideShapes Go.Deep Go.Joins

theorem lastOf_m (A : Option Addr) (m c : Nat) (xs : List Pt) (w : World) (ha : Rd w A (m + 1) 3 (rowOf ptC xs)) (la : xs.length = m + 1) (h0 : m < xs.length) (hn : m + 1 ≤ 1048576) :
    Calls Try.prog 68 #[.agg #[.slice A (m + 1) c]] w fun e w' => e = .returned (.agg #[.int .i64 xs[m].x, .int .i64 xs[m].y, .int .i64 xs[m].t]) ∧ Below w.heap.size w w' := lastOf_any A (m + 1) c xs w ha la h0 hn

def strI (l : List Pt) : Int := if sumTo l (l.length - 1) = 0 then 1000 else minI 1000 ((1000 : Int) * lenI (l.getD 0 default) (l.getD (l.length - 1) default) / sumTo l (l.length - 1))
def straightROk (l : List Pt) : Int × Int := (strI l, 0)
def straightR (l : List Pt) : Int × Int := if strB l = true then straightROk l else (0, 1)
theorem strI_zero {l : List Pt} {m : Nat} (hl : l.length = m + 1) (h : sumTo l m = 0) : strI l = 1000 := by
  unfold strI; rw [hl, Nat.add_sub_cancel, if_pos h]
theorem strI_pos {l : List Pt} {m : Nat} (hl : l.length = m + 1) (h0 : 0 < l.length) (hm : m < l.length) (h : ¬ sumTo l m = 0) : strI l = minI 1000 ((1000 : Int) * lenI l[0] l[m] / sumTo l m) := by
  unfold strI; rw [hl, Nat.add_sub_cancel, if_neg h, getD_at h0, getD_at hm]

set_option maxHeartbeats 4000000 in
theorem iStraightOf (A : Option Addr) (n c : Nat) (xs : List Pt) (w : World) (ha : Rd w A n 3 (rowOf ptC xs)) (la : xs.length = n) (hn : n ≤ 1048576) :
    Calls Try.prog 44 #[.agg #[.slice A n c]] w fun e w' => e = .returned (.tuple #[.int .i64 (straightR xs).1, .int .i64 (straightR xs).2]) ∧ Below w.heap.size w w' := by
  have hR : Hid (straightR xs = if strB xs = true then straightROk xs else (0, 1)) := rfl
  have HV := validStroke_any A n c xs (w.alloc (.cells #[.slice A n c] 35)) (ha.alloc _) la hn
  cases h1 : strB xs
  · rw [h1] at HV
    have H1 := Lib.hid h1
    clear h1
    go_enter Try.func44, Try.ntmps44
    go_wp2_with fail
    refine HV.mono ?_
    rintro e w2 ⟨rfl, hb⟩
    go_wp2_with fail
    go_ret2
    exact ⟨by rw [hR.out, H1.out]; rfl, Below.next (by go_grown) hb⟩
  · rw [h1] at HV
    have H1 := Lib.hid h1
    obtain ⟨hn1, hn60, hpt, htt⟩ := strB_true h1
    have HP : Hid (ptsB xs) := hpt
    have HT := Lib.hid htt
    rw [la] at hn1 hn60
    have HA0 := Lib.hid (ha.alloc (.cells #[.slice A n c] 35))
    have LA := Lib.hid la
    replace hR : Hid (straightR xs = straightROk xs) := by rw [Hid, hR.out, h1]; rfl
    clear h1 hpt htt ha la
    go_enter Try.func44, Try.ntmps44
    go_wp2_with fail
    refine HV.mono ?_
    rintro e w2 ⟨rfl, hb⟩
    clear HV
    have hcs : w2.cell? ⟨w.heap.size, 0, none⟩ = some (.slice A n c) := (hb.cell (p := ⟨w.heap.size, 0, none⟩) (by simp)).trans (by go_simp)
    have hws : w.heap.size < w2.heap.size := by have := hb.size; simp at this; omega
    have HA := Lib.hid (HA0.out.below hb)
    have hT : Below w.heap.size w w2 := Below.next (by go_grown) hb
    clear HA0 hb
    go_wp2_with fail
    refine (strokeLength_any A n c xs _ HA.out LA.out HP.out hn1 hn60).mono ?_
    rintro e w3 ⟨rfl, hb3⟩
    have hT3 := Below.next hT hb3
    have hcs3 : w3.cell? ⟨w.heap.size, 0, none⟩ = some (.slice A n c) := (hb3.cell (p := ⟨w.heap.size, 0, none⟩) hws).trans hcs
    have hws3 : w.heap.size < w3.heap.size := Nat.lt_of_lt_of_le hws hb3.size
    have HA3 := Lib.hid (HA.out.below hb3)
    clear hcs hb3
    obtain ⟨m, rfl⟩ : ∃ m, n = m + 1 := ⟨n - 1, by omega⟩
    have k0 : 0 < xs.length := by have := LA.out; omega
    have km : m < xs.length := by have := LA.out; omega
    have hs := sumTo_bd HP.out m km
    have hl0 := len_bd (HP.out 0 k0) (HP.out m km)
    have E0 := Lib.hid (HP.out 0 k0)
    have Em := Lib.hid (HP.out m km)
    simp only [Nat.add_sub_cancel] at *
    cases e1 : decide (sumTo xs m = 0)
    · have hne : ¬ sumTo xs m = 0 := of_decide_eq_false e1
      have hz : 1 ≤ sumTo xs m := by omega
      obtain ⟨D, hD⟩ : ∃ D, (1000 : Int) * lenI xs[0] xs[m] / sumTo xs m = D := ⟨_, rfl⟩
      have hD0 : 0 ≤ D ∧ D ≤ 92660000 := by
        rw [← hD]
        exact ⟨Int.ediv_nonneg (by omega) (by omega), Int.le_trans (Int.ediv_le_self _ (by omega)) (by omega)⟩
      have HS : Hid (strI xs = minI 1000 D) := by rw [Hid, strI_pos LA.out k0 km hne, hD]
      have hw1 : IntKind.i64.wrap ((1000 : Int) * lenI xs[0] xs[m]) = (1000 : Int) * lenI xs[0] xs[m] := IntWalk.i64_in _ (by omega)
      have hw2 : IntKind.i64.wrap (((1000 : Int) * lenI xs[0] xs[m]).tdiv (sumTo xs m)) = D := by rw [Int.tdiv_eq_ediv_of_nonneg (by omega), hD]; exact IntWalk.i64_in _ (by omega)
      clear hD
      obtain ⟨v, e2⟩ : ∃ v, decide (D < 1000) = v := ⟨_, rfl⟩
      have HM : Hid (min 1000 D = strI xs) := by
        rw [Hid, HS.out]; unfold minI; split <;> omega
      go_wp2_with fail
      refine wp_region_held_drew (S := (fun w' => (∀ kb ko, kb < w3.heap.size → w'.cell? ⟨kb, ko, none⟩ = w3.cell? ⟨kb, ko, none⟩) ∧ w3.heap.size ≤ w'.heap.size ∧ Below w3.heap.size w3 w')) (by kernel_rfl) ?_ (fun hHeld => ?_)
      · (try dsimp only); exact SB.mk ((Below.refl _ _).drew)
      first | (refine take_on (i := 0) (v := ?_) rfl (by kernel_rfl) (by kernel_rfl) (by kernel_rfl) (fun _ _ _ h => h) rfl ?_ (by assumption) ?_; rotate_left; · (intro w' hSw; (try dsimp only at hSw); go_simp; (try with_reducible rfl))) | (refine take_off (i := 0) rfl (by kernel_rfl) (by kernel_rfl) (by kernel_rfl) (fun _ _ _ h => h) rfl (by assumption) ?_)
      (try simp only [Act.put, List.setIfInBounds_toArray, List.set_cons_zero, List.set_cons_succ])
      first | (refine take_on (i := 2) (v := ?_) rfl (by kernel_rfl) (by kernel_rfl) (by kernel_rfl) (fun _ _ _ h => h) rfl ?_ (by assumption) ?_; rotate_left; · (intro w' hSw; (try dsimp only at hSw); go_simp; (try with_reducible rfl))) | (refine take_off (i := 2) rfl (by kernel_rfl) (by kernel_rfl) (by kernel_rfl) (fun _ _ _ h => h) rfl (by assumption) ?_)
      (try simp only [Act.put, List.setIfInBounds_toArray, List.set_cons_zero, List.set_cons_succ])
      first | (refine take_on (i := 6) (v := ?_) rfl (by kernel_rfl) (by kernel_rfl) (by kernel_rfl) (fun _ _ _ h => h) rfl ?_ (by assumption) ?_; rotate_left; · (intro w' hSw; (try dsimp only at hSw); go_simp; (try with_reducible rfl))) | (refine take_off (i := 6) rfl (by kernel_rfl) (by kernel_rfl) (by kernel_rfl) (fun _ _ _ h => h) rfl (by assumption) ?_)
      (try simp only [Act.put, List.setIfInBounds_toArray, List.set_cons_zero, List.set_cons_succ])
      refine wpAnyH_ready (rs := [1]) (by kernel_rfl) (by simp) ?_
      refine AllReadyH.cons rfl (fun K hK => ?_) AllReadyH.nil
      rw [if_pos (by rfl)]
      go_simp
      go_at_call 67
      refine (firstOf_any A (m + 1) c xs _ (by first | exact HA3.out | exact HA3.out.drew) LA.out k0).mono ?_
      rintro e w4 ⟨rfl, hb4⟩
      have hB4 : Below w3.heap.size w3 w4 := Below.next (by go_grown) hb4
      have HA4 := Lib.hid (HA3.out.below hB4)
      refine hK.out _ _ ?_ (fun hHeld2 => ?_)
      · (try dsimp only); exact SB.mk hB4
      clear hK K hHeld; have hHeld := hHeld2; clear hHeld2; (try simp only [Act.put, List.setIfInBounds_toArray, List.set_cons_zero, List.set_cons_succ])
      refine wpAnyH_ready (rs := [3]) (by kernel_rfl) (by simp) ?_
      refine AllReadyH.cons rfl (fun K hK => ?_) AllReadyH.nil
      rw [if_pos (by rfl)]
      go_simp
      go_at_call 68
      refine (lastOf_m A m c xs _ HA4.out LA.out km (by omega)).mono ?_
      rintro e w5 ⟨rfl, hb5⟩
      have hB5 : Below w3.heap.size w3 w5 := Below.next hB4 hb5
      refine hK.out _ _ ?_ (fun hHeld2 => ?_)
      · (try dsimp only); exact SB.mk hB5
      clear hK K hHeld; have hHeld := hHeld2; clear hHeld2; (try simp only [Act.put, List.setIfInBounds_toArray, List.set_cons_zero, List.set_cons_succ])
      refine wpAnyH_ready (rs := [4]) (by kernel_rfl) (by simp) ?_
      refine AllReadyH.cons rfl (fun K hK => ?_) AllReadyH.nil
      rw [if_pos (by rfl)]
      go_simp
      go_at_call 76
      refine (lengthOf_any xs[0] xs[m] _ E0.out Em.out).mono ?_
      rintro e w6 ⟨rfl, hb6⟩
      have hB6 : Below w3.heap.size w3 w6 := Below.next hB5 hb6
      refine hK.out _ _ ?_ (fun hHeld2 => ?_)
      · (try dsimp only); exact SB.mk hB6
      clear hK K hHeld; have hHeld := hHeld2; clear hHeld2; (try simp only [Act.put, List.setIfInBounds_toArray, List.set_cons_zero, List.set_cons_succ])
      first | (refine take_on (i := 5) (v := ?_) rfl (by kernel_rfl) (by kernel_rfl) (by kernel_rfl) (fun _ _ _ h => h) rfl ?_ (by assumption) ?_; rotate_left; · (intro w' hSw; (try dsimp only at hSw); go_simp; (try with_reducible rfl))) | (refine take_off (i := 5) rfl (by kernel_rfl) (by kernel_rfl) (by kernel_rfl) (fun _ _ _ h => h) rfl (by assumption) ?_)
      (try simp only [Act.put, List.setIfInBounds_toArray, List.set_cons_zero, List.set_cons_succ])
      first | (refine take_on (i := 7) (v := ?_) rfl (by kernel_rfl) (by kernel_rfl) (by kernel_rfl) (fun _ _ _ h => h) rfl ?_ (by assumption) ?_; rotate_left; · (intro w' hSw; (try dsimp only at hSw); go_simp; (try with_reducible rfl))) | (refine take_off (i := 7) rfl (by kernel_rfl) (by kernel_rfl) (by kernel_rfl) (fun _ _ _ h => h) rfl (by assumption) ?_)
      (try simp only [Act.put, List.setIfInBounds_toArray, List.set_cons_zero, List.set_cons_succ])
      first | (refine take_on (i := 8) (v := ?_) rfl (by kernel_rfl) (by kernel_rfl) (by kernel_rfl) (fun _ _ _ h => h) rfl ?_ (by assumption) ?_; rotate_left; · (intro w' hSw; (try dsimp only at hSw); go_simp; (try with_reducible rfl))) | (refine take_off (i := 8) rfl (by kernel_rfl) (by kernel_rfl) (by kernel_rfl) (fun _ _ _ h => h) rfl (by assumption) ?_)
      (try simp only [Act.put, List.setIfInBounds_toArray, List.set_cons_zero, List.set_cons_succ])
      first | (refine take_on (i := 9) (v := ?_) rfl (by kernel_rfl) (by kernel_rfl) (by kernel_rfl) (fun _ _ _ h => h) rfl ?_ (by assumption) ?_; rotate_left; · (intro w' hSw; (try dsimp only at hSw); go_simp; (try with_reducible rfl))) | (refine take_off (i := 9) rfl (by kernel_rfl) (by kernel_rfl) (by kernel_rfl) (fun _ _ _ h => h) rfl (by assumption) ?_)
      (try simp only [Act.put, List.setIfInBounds_toArray, List.set_cons_zero, List.set_cons_succ])
      first | (refine take_on (i := 10) (v := ?_) rfl (by kernel_rfl) (by kernel_rfl) (by kernel_rfl) (fun _ _ _ h => h) rfl ?_ (by assumption) ?_; rotate_left; · (intro w' hSw; (try dsimp only at hSw); go_simp; (try with_reducible rfl))) | (refine take_off (i := 10) rfl (by kernel_rfl) (by kernel_rfl) (by kernel_rfl) (fun _ _ _ h => h) rfl (by assumption) ?_)
      (try simp only [Act.put, List.setIfInBounds_toArray, List.set_cons_zero, List.set_cons_succ])
      refine wpAnyH_done (by kernel_rfl) ?_ _
      clear hHeld hw1 hw2
      have hT6 := Below.next hT3 hB6
      go_wp2_with fail
      go_ret2
      exact ⟨by rw [hR.out, straightROk, ← HM.out]; rfl, hT6⟩
    · have hze : sumTo xs m = 0 := of_decide_eq_true e1
      have HS : Hid (strI xs = 1000) := strI_zero LA.out hze
      have hzb : (sumTo xs m == 0) = true := by rw [hze]; rfl
      clear hze e1
      go_wp2_with fail
      go_ret2
      exact ⟨by rw [hR.out, straightROk, HS.out]; rfl, hT3⟩
set_option maxHeartbeats 4000000 in
theorem l05Straight_any (b : Nat) (A : Option Addr) (n c : Nat) (xs : List Pt) (w : World) (hcs0 : w.cell? ⟨b, 0, none⟩ = some (.slice A n c)) (ha : Rd w A n 3 (rowOf ptC xs)) (la : xs.length = n) (hp : ptsB xs) (hn1 : 1 ≤ n) (hn60 : n ≤ 60) :
    Calls Try.prog 75 #[.pointer (some ⟨b, 0, none⟩)] w fun e w' => e = .returned (.int .i64 (strI xs)) ∧ Below w.heap.size w w' := by
  have hb0 : b < w.heap.size := block_lt_of_cell hcs0
  have HA := Lib.hid ha
  have LA := Lib.hid la
  have HP := Lib.hid hp
  clear ha la hp
  obtain ⟨m, rfl⟩ : ∃ m, n = m + 1 := ⟨n - 1, by omega⟩
  have k0 : 0 < xs.length := by have := LA.out; omega
  have km : m < xs.length := by have := LA.out; omega
  have hs := sumTo_bd HP.out m km
  have hl0 := len_bd (HP.out 0 k0) (HP.out m km)
  have E0 := Lib.hid (HP.out 0 k0)
  have Em := Lib.hid (HP.out m km)
  obtain ⟨b1, o1, rfl, l1, c1, c2, c3⟩ := HA.out.pt LA.out k0
  obtain ⟨_, _, e0, _, d1, d2, d3⟩ := HA.out.pt LA.out km
  cases e0
  simp only [Nat.zero_mul, Nat.add_zero] at c1 c2 c3
  cases e1 : decide (sumTo xs m = 0)
  · have hne : ¬ sumTo xs m = 0 := of_decide_eq_false e1
    have hz : 1 ≤ sumTo xs m := by omega
    obtain ⟨D, hD⟩ : ∃ D, (1000 : Int) * lenI xs[0] xs[m] / sumTo xs m = D := ⟨_, rfl⟩
    have hD0 : 0 ≤ D ∧ D ≤ 92660000 := by
      rw [← hD]
      exact ⟨Int.ediv_nonneg (by omega) (by omega), Int.le_trans (Int.ediv_le_self _ (by omega)) (by omega)⟩
    have HS : Hid (strI xs = minI 1000 D) := by rw [Hid, strI_pos LA.out k0 km hne, hD]
    have hw1 : IntKind.i64.wrap ((1000 : Int) * lenI xs[0] xs[m]) = (1000 : Int) * lenI xs[0] xs[m] := IntWalk.i64_in _ (by omega)
    have hw2 : IntKind.i64.wrap (((1000 : Int) * lenI xs[0] xs[m]).tdiv (sumTo xs m)) = D := by rw [Int.tdiv_eq_ediv_of_nonneg (by omega), hD]; exact IntWalk.i64_in _ (by omega)
    clear hD
    go_enter Try.func75, Try.ntmps75
    go_wp2_with fail
    refine (l05Sum_any b _ (m + 1) c xs _ hcs0 HA.out LA.out HP.out hn1 hn60).mono ?_
    rintro e w3 ⟨rfl, hb3⟩
    obtain ⟨hc3, hf3⟩ := bcell hb3
    have hz3 := hb3.size
    have hb03 : b < w3.heap.size := by omega
    have l13 : b1 < w3.heap.size := by omega
    have hcs3 : w3.cell? ⟨b, 0, none⟩ = some (.slice (some ⟨b1, o1, none⟩) (m + 1) c) := (hc3 _ _ hb0).trans hcs0
    have c13 := (hc3 _ o1 l1).trans c1
    have c23 := (hc3 _ (o1 + 1) l1).trans c2
    have c33 := (hc3 _ (o1 + 2) l1).trans c3
    have d13 := (hc3 _ (o1 + m * 3) l1).trans d1
    have d23 := (hc3 _ (o1 + m * 3 + 1) l1).trans d2
    have d33 := (hc3 _ (o1 + m * 3 + 2) l1).trans d3
    have hm0 : (0 : Int) ≤ (m : Int) := by omega
    have hmm : (m : Int) < (m : Int) + 1 := by omega
    have hm1 : (0 : Int) < (m : Int) + 1 := by omega
    have hwm : IntKind.i64.wrap (m : Int) = (m : Int) := IntWalk.i64_in _ (by omega)
    clear hc3 hf3 c1 c2 c3 d1 d2 d3
    go_wp2_with fail
    refine wp_region_held_drew (S := (fun w' => (∀ kb ko, kb < w3.heap.size → w'.cell? ⟨kb, ko, none⟩ = w3.cell? ⟨kb, ko, none⟩) ∧ w3.heap.size ≤ w'.heap.size ∧ Below w3.heap.size w3 w')) (by kernel_rfl) ?_ (fun hHeld => ?_)
    · (try dsimp only); exact SB.mk ((Below.refl _ _).drew)
    first | (refine take_on (i := 0) (v := ?_) rfl (by kernel_rfl) (by kernel_rfl) (by kernel_rfl) (fun _ _ _ h => h) rfl ?_ (by assumption) ?_; rotate_left; · (intro w' hSw; (try dsimp only at hSw); go_simp; (try with_reducible rfl))) | (refine take_off (i := 0) rfl (by kernel_rfl) (by kernel_rfl) (by kernel_rfl) (fun _ _ _ h => h) rfl (by assumption) ?_)
    (try simp only [Act.put, List.setIfInBounds_toArray, List.set_cons_zero, List.set_cons_succ])
    first | (refine take_on (i := 1) (v := ?_) rfl (by kernel_rfl) (by kernel_rfl) (by kernel_rfl) (fun _ _ _ h => h) rfl ?_ (by assumption) ?_; rotate_left; · (intro w' hSw; (try dsimp only at hSw); go_simp; (try with_reducible rfl))) | (refine take_off (i := 1) rfl (by kernel_rfl) (by kernel_rfl) (by kernel_rfl) (fun _ _ _ h => h) rfl (by assumption) ?_)
    (try simp only [Act.put, List.setIfInBounds_toArray, List.set_cons_zero, List.set_cons_succ])
    first | (refine take_on (i := 2) (v := ?_) rfl (by kernel_rfl) (by kernel_rfl) (by kernel_rfl) (fun _ _ _ h => h) rfl ?_ (by assumption) ?_; rotate_left; · (intro w' hSw; (try dsimp only at hSw); go_simp; (try with_reducible rfl))) | (refine take_off (i := 2) rfl (by kernel_rfl) (by kernel_rfl) (by kernel_rfl) (fun _ _ _ h => h) rfl (by assumption) ?_)
    (try simp only [Act.put, List.setIfInBounds_toArray, List.set_cons_zero, List.set_cons_succ])
    first | (refine take_on (i := 3) (v := ?_) rfl (by kernel_rfl) (by kernel_rfl) (by kernel_rfl) (fun _ _ _ h => h) rfl ?_ (by assumption) ?_; rotate_left; · (intro w' hSw; (try dsimp only at hSw); go_simp; (try with_reducible rfl))) | (refine take_off (i := 3) rfl (by kernel_rfl) (by kernel_rfl) (by kernel_rfl) (fun _ _ _ h => h) rfl (by assumption) ?_)
    (try simp only [Act.put, List.setIfInBounds_toArray, List.set_cons_zero, List.set_cons_succ])
    first | (refine take_on (i := 4) (v := ?_) rfl (by kernel_rfl) (by kernel_rfl) (by kernel_rfl) (fun _ _ _ h => h) rfl ?_ (by assumption) ?_; rotate_left; · (intro w' hSw; (try dsimp only at hSw); go_simp; (try with_reducible rfl))) | (refine take_off (i := 4) rfl (by kernel_rfl) (by kernel_rfl) (by kernel_rfl) (fun _ _ _ h => h) rfl (by assumption) ?_)
    (try simp only [Act.put, List.setIfInBounds_toArray, List.set_cons_zero, List.set_cons_succ])
    first | (refine take_on (i := 5) (v := ?_) rfl (by kernel_rfl) (by kernel_rfl) (by kernel_rfl) (fun _ _ _ h => h) rfl ?_ (by assumption) ?_; rotate_left; · (intro w' hSw; (try dsimp only at hSw); go_simp; (try with_reducible rfl))) | (refine take_off (i := 5) rfl (by kernel_rfl) (by kernel_rfl) (by kernel_rfl) (fun _ _ _ h => h) rfl (by assumption) ?_)
    (try simp only [Act.put, List.setIfInBounds_toArray, List.set_cons_zero, List.set_cons_succ])
    first | (refine take_on (i := 6) (v := ?_) rfl (by kernel_rfl) (by kernel_rfl) (by kernel_rfl) (fun _ _ _ h => h) rfl ?_ (by assumption) ?_; rotate_left; · (intro w' hSw; (try dsimp only at hSw); go_simp; (try with_reducible rfl))) | (refine take_off (i := 6) rfl (by kernel_rfl) (by kernel_rfl) (by kernel_rfl) (fun _ _ _ h => h) rfl (by assumption) ?_)
    (try simp only [Act.put, List.setIfInBounds_toArray, List.set_cons_zero, List.set_cons_succ])
    first | (refine take_on (i := 7) (v := ?_) rfl (by kernel_rfl) (by kernel_rfl) (by kernel_rfl) (fun _ _ _ h => h) rfl ?_ (by assumption) ?_; rotate_left; · (intro w' hSw; (try dsimp only at hSw); go_simp; (try with_reducible rfl))) | (refine take_off (i := 7) rfl (by kernel_rfl) (by kernel_rfl) (by kernel_rfl) (fun _ _ _ h => h) rfl (by assumption) ?_)
    (try simp only [Act.put, List.setIfInBounds_toArray, List.set_cons_zero, List.set_cons_succ])
    first | (refine take_on (i := 8) (v := ?_) rfl (by kernel_rfl) (by kernel_rfl) (by kernel_rfl) (fun _ _ _ h => h) rfl ?_ (by assumption) ?_; rotate_left; · (intro w' hSw; (try dsimp only at hSw); go_simp; (try with_reducible rfl))) | (refine take_off (i := 8) rfl (by kernel_rfl) (by kernel_rfl) (by kernel_rfl) (fun _ _ _ h => h) rfl (by assumption) ?_)
    (try simp only [Act.put, List.setIfInBounds_toArray, List.set_cons_zero, List.set_cons_succ])
    first | (refine take_on (i := 9) (v := ?_) rfl (by kernel_rfl) (by kernel_rfl) (by kernel_rfl) (fun _ _ _ h => h) rfl ?_ (by assumption) ?_; rotate_left; · (intro w' hSw; (try dsimp only at hSw); go_simp; (try with_reducible rfl))) | (refine take_off (i := 9) rfl (by kernel_rfl) (by kernel_rfl) (by kernel_rfl) (fun _ _ _ h => h) rfl (by assumption) ?_)
    (try simp only [Act.put, List.setIfInBounds_toArray, List.set_cons_zero, List.set_cons_succ])
    first | (refine take_on (i := 10) (v := ?_) rfl (by kernel_rfl) (by kernel_rfl) (by kernel_rfl) (fun _ _ _ h => h) rfl ?_ (by assumption) ?_; rotate_left; · (intro w' hSw; (try dsimp only at hSw); go_simp; (try with_reducible rfl))) | (refine take_off (i := 10) rfl (by kernel_rfl) (by kernel_rfl) (by kernel_rfl) (fun _ _ _ h => h) rfl (by assumption) ?_)
    (try simp only [Act.put, List.setIfInBounds_toArray, List.set_cons_zero, List.set_cons_succ])
    first | (refine take_on (i := 11) (v := ?_) rfl (by kernel_rfl) (by kernel_rfl) (by kernel_rfl) (fun _ _ _ h => h) rfl ?_ (by assumption) ?_; rotate_left; · (intro w' hSw; (try dsimp only at hSw); go_simp; (try with_reducible rfl))) | (refine take_off (i := 11) rfl (by kernel_rfl) (by kernel_rfl) (by kernel_rfl) (fun _ _ _ h => h) rfl (by assumption) ?_)
    (try simp only [Act.put, List.setIfInBounds_toArray, List.set_cons_zero, List.set_cons_succ])
    first | (refine take_on (i := 12) (v := ?_) rfl (by kernel_rfl) (by kernel_rfl) (by kernel_rfl) (fun _ _ _ h => h) rfl ?_ (by assumption) ?_; rotate_left; · (intro w' hSw; (try dsimp only at hSw); go_simp; (try with_reducible rfl))) | (refine take_off (i := 12) rfl (by kernel_rfl) (by kernel_rfl) (by kernel_rfl) (fun _ _ _ h => h) rfl (by assumption) ?_)
    (try simp only [Act.put, List.setIfInBounds_toArray, List.set_cons_zero, List.set_cons_succ])
    first | (refine take_on (i := 13) (v := ?_) rfl (by kernel_rfl) (by kernel_rfl) (by kernel_rfl) (fun _ _ _ h => h) rfl ?_ (by assumption) ?_; rotate_left; · (intro w' hSw; (try dsimp only at hSw); go_simp; (try with_reducible rfl))) | (refine take_off (i := 13) rfl (by kernel_rfl) (by kernel_rfl) (by kernel_rfl) (fun _ _ _ h => h) rfl (by assumption) ?_)
    (try simp only [Act.put, List.setIfInBounds_toArray, List.set_cons_zero, List.set_cons_succ])
    first | (refine take_on (i := 14) (v := ?_) rfl (by kernel_rfl) (by kernel_rfl) (by kernel_rfl) (fun _ _ _ h => h) rfl ?_ (by assumption) ?_; rotate_left; · (intro w' hSw; (try dsimp only at hSw); go_simp; (try with_reducible rfl))) | (refine take_off (i := 14) rfl (by kernel_rfl) (by kernel_rfl) (by kernel_rfl) (fun _ _ _ h => h) rfl (by assumption) ?_)
    (try simp only [Act.put, List.setIfInBounds_toArray, List.set_cons_zero, List.set_cons_succ])
    first | (refine take_on (i := 15) (v := ?_) rfl (by kernel_rfl) (by kernel_rfl) (by kernel_rfl) (fun _ _ _ h => h) rfl ?_ (by assumption) ?_; rotate_left; · (intro w' hSw; (try dsimp only at hSw); go_simp; (try with_reducible rfl))) | (refine take_off (i := 15) rfl (by kernel_rfl) (by kernel_rfl) (by kernel_rfl) (fun _ _ _ h => h) rfl (by assumption) ?_)
    (try simp only [Act.put, List.setIfInBounds_toArray, List.set_cons_zero, List.set_cons_succ])
    first | (refine take_on (i := 16) (v := ?_) rfl (by kernel_rfl) (by kernel_rfl) (by kernel_rfl) (fun _ _ _ h => h) rfl ?_ (by assumption) ?_; rotate_left; · (intro w' hSw; (try dsimp only at hSw); go_simp; (try with_reducible rfl))) | (refine take_off (i := 16) rfl (by kernel_rfl) (by kernel_rfl) (by kernel_rfl) (fun _ _ _ h => h) rfl (by assumption) ?_)
    (try simp only [Act.put, List.setIfInBounds_toArray, List.set_cons_zero, List.set_cons_succ])
    first | (refine take_on (i := 17) (v := ?_) rfl (by kernel_rfl) (by kernel_rfl) (by kernel_rfl) (fun _ _ _ h => h) rfl ?_ (by assumption) ?_; rotate_left; · (intro w' hSw; (try dsimp only at hSw); go_simp; (try with_reducible rfl))) | (refine take_off (i := 17) rfl (by kernel_rfl) (by kernel_rfl) (by kernel_rfl) (fun _ _ _ h => h) rfl (by assumption) ?_)
    (try simp only [Act.put, List.setIfInBounds_toArray, List.set_cons_zero, List.set_cons_succ])
    first | (refine take_on (i := 20) (v := ?_) rfl (by kernel_rfl) (by kernel_rfl) (by kernel_rfl) (fun _ _ _ h => h) rfl ?_ (by assumption) ?_; rotate_left; · (intro w' hSw; (try dsimp only at hSw); go_simp; (try with_reducible rfl))) | (refine take_off (i := 20) rfl (by kernel_rfl) (by kernel_rfl) (by kernel_rfl) (fun _ _ _ h => h) rfl (by assumption) ?_)
    (try simp only [Act.put, List.setIfInBounds_toArray, List.set_cons_zero, List.set_cons_succ])
    refine wpAnyH_ready (rs := [18]) (by kernel_rfl) (by simp) ?_
    refine AllReadyH.cons rfl (fun K hK => ?_) AllReadyH.nil
    rw [if_pos (by rfl)]
    go_simp
    go_at_call 86
    refine (l05Length_any xs[0] xs[m] _ E0.out Em.out).mono ?_
    rintro e w4 ⟨rfl, hb4⟩
    have hB4 : Below w3.heap.size w3 w4 := Below.next (by go_grown) hb4
    refine hK.out _ _ ?_ (fun hHeld2 => ?_)
    · (try dsimp only); exact SB.mk hB4
    clear hK K hHeld; have hHeld := hHeld2; clear hHeld2; (try simp only [Act.put, List.setIfInBounds_toArray, List.set_cons_zero, List.set_cons_succ])
    first | (refine take_on (i := 19) (v := ?_) rfl (by kernel_rfl) (by kernel_rfl) (by kernel_rfl) (fun _ _ _ h => h) rfl ?_ (by assumption) ?_; rotate_left; · (intro w' hSw; (try dsimp only at hSw); go_simp; (try with_reducible rfl))) | (refine take_off (i := 19) rfl (by kernel_rfl) (by kernel_rfl) (by kernel_rfl) (fun _ _ _ h => h) rfl (by assumption) ?_)
    (try simp only [Act.put, List.setIfInBounds_toArray, List.set_cons_zero, List.set_cons_succ])
    first | (refine take_on (i := 21) (v := ?_) rfl (by kernel_rfl) (by kernel_rfl) (by kernel_rfl) (fun _ _ _ h => h) rfl ?_ (by assumption) ?_; rotate_left; · (intro w' hSw; (try dsimp only at hSw); go_simp; (try with_reducible rfl))) | (refine take_off (i := 21) rfl (by kernel_rfl) (by kernel_rfl) (by kernel_rfl) (fun _ _ _ h => h) rfl (by assumption) ?_)
    (try simp only [Act.put, List.setIfInBounds_toArray, List.set_cons_zero, List.set_cons_succ])
    refine wpAnyH_ready (rs := [22]) (by kernel_rfl) (by simp) ?_
    refine AllReadyH.cons rfl (fun K hK => ?_) AllReadyH.nil
    rw [if_pos (by rfl)]
    go_simp
    go_at_call 91
    refine (l00Min_any 1000 D _).mono ?_
    rintro e w' ⟨rfl, rfl⟩
    refine hK.out _ _ ?_ (fun hHeld2 => ?_)
    · (try dsimp only); exact SB.mk hB4
    clear hK K hHeld; have hHeld := hHeld2; clear hHeld2; (try simp only [Act.put, List.setIfInBounds_toArray, List.set_cons_zero, List.set_cons_succ])
    first | (refine take_on (i := 23) (v := ?_) rfl (by kernel_rfl) (by kernel_rfl) (by kernel_rfl) (fun _ _ _ h => h) rfl ?_ (by assumption) ?_; rotate_left; · (intro w' hSw; (try dsimp only at hSw); go_simp; (try with_reducible rfl))) | (refine take_off (i := 23) rfl (by kernel_rfl) (by kernel_rfl) (by kernel_rfl) (fun _ _ _ h => h) rfl (by assumption) ?_)
    (try simp only [Act.put, List.setIfInBounds_toArray, List.set_cons_zero, List.set_cons_succ])
    refine wpAnyH_done (by kernel_rfl) ?_ _
    clear hHeld hw1 hw2
    have hT4 := Below.next hb3 hB4
    go_wp2_with fail
    go_ret
    exact ⟨by (rw [HS.out]; try rfl), hT4⟩
  · have hze : sumTo xs m = 0 := of_decide_eq_true e1
    have HS : Hid (strI xs = 1000) := strI_zero LA.out hze
    have hzb : (sumTo xs m == 0) = true := by rw [hze]; rfl
    clear hze c1 c2 c3 d1 d2 d3 e1
    go_enter Try.func75, Try.ntmps75
    go_wp2_with fail
    refine (l05Sum_any b _ (m + 1) c xs _ hcs0 HA.out LA.out HP.out hn1 hn60).mono ?_
    rintro e w3 ⟨rfl, hb3⟩
    simp only [Nat.add_sub_cancel]
    go_wp2_with fail
    go_ret
    exact ⟨by (rw [HS.out]; try rfl), hb3⟩

set_option maxHeartbeats 4000000 in
theorem sStraightOf (A : Option Addr) (n c : Nat) (xs : List Pt) (w : World) (ha : Rd w A n 3 (rowOf ptC xs)) (la : xs.length = n) (hn : n ≤ 1048576) :
    Calls Try.prog 43 #[.agg #[.slice A n c]] w fun e w' => e = .returned (.tuple #[.int .i64 (straightR xs).1, .int .i64 (straightR xs).2]) ∧ Below w.heap.size w w' := by
  have hR : Hid (straightR xs = if strB xs = true then straightROk xs else (0, 1)) := rfl
  have HV := l02Stroke_any w.heap.size A n c xs (w.alloc (.cells #[.slice A n c] 35)) (by go_simp) (ha.alloc _) la hn
  cases h1 : strB xs
  · rw [h1] at HV
    have H1 := Lib.hid h1
    clear h1
    go_enter Try.func43, Try.ntmps43
    go_wp2_with fail
    refine HV.mono ?_
    rintro e w2 ⟨rfl, hb⟩
    go_wp2_with fail
    go_ret2
    exact ⟨by rw [hR.out, H1.out]; rfl, Below.next (by go_grown) hb⟩
  · rw [h1] at HV
    have H1 := Lib.hid h1
    obtain ⟨hn1, hn60, hpt, htt⟩ := strB_true h1
    have HP : Hid (ptsB xs) := hpt
    have HT := Lib.hid htt
    rw [la] at hn1 hn60
    have HA0 := Lib.hid (ha.alloc (.cells #[.slice A n c] 35))
    have LA := Lib.hid la
    replace hR : Hid (straightR xs = straightROk xs) := by rw [Hid, hR.out, h1]; rfl
    clear h1 hpt htt ha la
    go_enter Try.func43, Try.ntmps43
    go_wp2_with fail
    refine HV.mono ?_
    rintro e w2 ⟨rfl, hb⟩
    clear HV
    have hcs : w2.cell? ⟨w.heap.size, 0, none⟩ = some (.slice A n c) := (hb.cell (p := ⟨w.heap.size, 0, none⟩) (by simp)).trans (by go_simp)
    have hws : w.heap.size < w2.heap.size := by have := hb.size; simp at this; omega
    have HA := Lib.hid (HA0.out.below hb)
    have hT : Below w.heap.size w w2 := Below.next (by go_grown) hb
    clear HA0 hb
    go_wp2_with fail
    refine (l05Straight_any w.heap.size A n c xs _ hcs HA.out LA.out HP.out hn1 hn60).mono ?_
    rintro e w3 ⟨rfl, hb3⟩
    go_wp2_with fail
    go_ret2
    exact ⟨by rw [hR.out, straightROk]; rfl, Below.next hT hb3⟩end Go.Proofs.Ytcglcfjonicjgaa
