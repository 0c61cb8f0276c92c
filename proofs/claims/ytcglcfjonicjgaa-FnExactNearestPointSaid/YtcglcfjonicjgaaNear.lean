/-
  The point of a stroke that is nearest to a point: program and reference find the same.
-/
import Derived.Test.YtcglcfjonicjgaaStrokePlain
import Derived.Test.YtcglcfjonicjgaaValidS
namespace Go.Proofs.Ytcglcfjonicjgaa
set_option linter.unusedSimpArgs false
set_option linter.unusedVariables false
open Go.RowKit

def nearR (l : List Pt) (p : Pt) : Int × Int := if (strB l && ptB p) = true then (((nearBest l p l.length : Nat) : Int), 0) else (0, 1)
theorem near_yes {l : List Pt} {p : Pt} {k b : Nat} (hk : k < l.length) (hb : b < l.length) (e : nearBest l p k = b) (h : distI p l[k] < distI p l[b]) : nearBest l p (k + 1) = k := by
  rw [nearBest, e, getD_at hk, getD_at hb, if_pos h]
theorem near_no {l : List Pt} {p : Pt} {k b : Nat} (hk : k < l.length) (hb : b < l.length) (e : nearBest l p k = b) (h : ¬ distI p l[k] < distI p l[b]) : nearBest l p (k + 1) = b := by
  rw [nearBest, e, getD_at hk, getD_at hb, if_neg h]

set_option maxHeartbeats 4000000 in
theorem iNearestPoint (A : Option Addr) (n c : Nat) (xs : List Pt) (p : Pt) (w : World) (ha : Rd w A n 3 (rowOf ptC xs)) (la : xs.length = n) (hn : n ≤ 1048576) :
    Calls Try.prog 31 #[.agg #[.slice A n c], .agg #[.int .i64 p.x, .int .i64 p.y, .int .i64 p.t]] w fun e w' => e = .returned (.tuple #[.int .i64 (nearR xs p).1, .int .i64 (nearR xs p).2]) ∧ Below w.heap.size w w' := by
  have HV := validStroke_any A n c xs ((w.alloc (.cells #[.slice A n c] 35)).alloc (.cells #[.int .i64 p.x, .int .i64 p.y, .int .i64 p.t] 44)) ((ha.alloc _).alloc _) la hn
  cases h1 : strB xs
  · have hR : Hid (nearR xs p = (0, 1)) := by rw [Hid, nearR, h1]; rfl
    rw [h1] at HV
    clear h1
    go_enter Try.func31, Try.ntmps31
    go_wp2_with fail
    refine HV.mono ?_
    rintro e w2 ⟨rfl, hb⟩
    go_wp2_with fail
    go_ret2
    exact ⟨by rw [hR.out]; rfl, Below.next (by go_grown) hb⟩
  · rw [h1] at HV
    cases h2 : ptB p
    · have hR : Hid (nearR xs p = (0, 1)) := by rw [Hid, nearR, h1, h2]; rfl
      have HP2 : Hid (ptB p = false) := h2
      clear h1 h2
      go_enter Try.func31, Try.ntmps31
      go_wp2_with fail
      refine HV.mono ?_
      rintro e w2 ⟨rfl, hb⟩
      have hT : Below w.heap.size w w2 := Below.next (by go_grown) hb
      have hz := hb.size
      simp only [World.size_alloc] at hz
      have hws : w.heap.size < w2.heap.size := by omega
      have hws2 : w.heap.size + 1 < w2.heap.size := by omega
      have d0 : w2.cell? ⟨w.heap.size + 1, 0, none⟩ = some (.int .i64 p.x) := (hb.cell (p := ⟨w.heap.size + 1, 0, none⟩) (by simp)).trans (by go_simp)
      have d1 : w2.cell? ⟨w.heap.size + 1, 1, none⟩ = some (.int .i64 p.y) := (hb.cell (p := ⟨w.heap.size + 1, 1, none⟩) (by simp)).trans (by go_simp)
      have d2 : w2.cell? ⟨w.heap.size + 1, 2, none⟩ = some (.int .i64 p.t) := (hb.cell (p := ⟨w.heap.size + 1, 2, none⟩) (by simp)).trans (by go_simp)
      go_wp2_with fail
      refine (iValidPoint_of HP2 _).mono ?_
      rintro e w3 ⟨rfl, hb3⟩
      go_wp2_with fail
      go_ret2
      exact ⟨by rw [hR.out]; rfl, Below.next hT hb3⟩
    · have hR : Hid (nearR xs p = (((nearBest xs p n : Nat) : Int), 0)) := by rw [Hid, nearR, h1, h2, la]; rfl
      have HP2 : Hid (ptB p = true) := h2
      obtain ⟨hn1, hn60, hpt, htt⟩ := strB_true h1
      have HP : Hid (ptsB xs) := hpt
      rw [la] at hn1 hn60
      have HA0 := Lib.hid ((ha.alloc (.cells #[.slice A n c] 35)).alloc (.cells #[.int .i64 p.x, .int .i64 p.y, .int .i64 p.t] 44))
      have LA := Lib.hid la
      clear h1 h2 hpt htt ha la
      go_enter Try.func31, Try.ntmps31
      go_wp2_with fail
      refine HV.mono ?_
      rintro e w1 ⟨rfl, hb⟩
      clear HV
      have hT1 : Below w.heap.size w w1 := Below.next (by go_grown) hb
      have hz := hb.size
      simp only [World.size_alloc] at hz
      have hws1 : w.heap.size < w1.heap.size := by omega
      have hws12 : w.heap.size + 1 < w1.heap.size := by omega
      have hcs1 : w1.cell? ⟨w.heap.size, 0, none⟩ = some (.slice A n c) := (hb.cell (p := ⟨w.heap.size, 0, none⟩) (by simp; omega)).trans (by go_simp)
      have d0 : w1.cell? ⟨w.heap.size + 1, 0, none⟩ = some (.int .i64 p.x) := (hb.cell (p := ⟨w.heap.size + 1, 0, none⟩) (by simp)).trans (by go_simp)
      have d1 : w1.cell? ⟨w.heap.size + 1, 1, none⟩ = some (.int .i64 p.y) := (hb.cell (p := ⟨w.heap.size + 1, 1, none⟩) (by simp)).trans (by go_simp)
      have d2 : w1.cell? ⟨w.heap.size + 1, 2, none⟩ = some (.int .i64 p.t) := (hb.cell (p := ⟨w.heap.size + 1, 2, none⟩) (by simp)).trans (by go_simp)
      have HA1 := Lib.hid (HA0.out.below hb)
      go_wp2_with fail
      refine (iValidPoint_of HP2 _).mono ?_
      rintro e w2 ⟨rfl, hb2⟩
      have hT := Below.next hT1 hb2
      have hws : w.heap.size < w2.heap.size := Nat.lt_of_lt_of_le hws1 hb2.size
      have hws2 : w.heap.size + 1 < w2.heap.size := Nat.lt_of_lt_of_le hws12 hb2.size
      have hcs : w2.cell? ⟨w.heap.size, 0, none⟩ = some (.slice A n c) := (hb2.cell (p := ⟨w.heap.size, 0, none⟩) hws1).trans hcs1
      have f0 : w2.cell? ⟨w.heap.size + 1, 0, none⟩ = some (.int .i64 p.x) := (hb2.cell (p := ⟨w.heap.size + 1, 0, none⟩) hws12).trans d0
      have f1 : w2.cell? ⟨w.heap.size + 1, 1, none⟩ = some (.int .i64 p.y) := (hb2.cell (p := ⟨w.heap.size + 1, 1, none⟩) hws12).trans d1
      have f2 : w2.cell? ⟨w.heap.size + 1, 2, none⟩ = some (.int .i64 p.t) := (hb2.cell (p := ⟨w.heap.size + 1, 2, none⟩) hws12).trans d2
      have HA := Lib.hid (HA1.out.below hb2)
      clear d0 d1 d2 hcs1 HA0 HA1 hb hb2
      go_wp2_with fail
      go_loopw [6, 20] (fun b i wr => ∃ k q : Nat, 0 ≤ k ∧ k ≤ n ∧ q < n ∧ i = .int .i64 k ∧ b = .int .i64 (q : Int) ∧ Hid (nearBest xs p k = q) ∧ Below w2.heap.size w2 wr) (fun _ i _ => n - (intOf i).toNat)
      case atStart => exact ⟨0, 0, by omega, by omega, by omega, rfl, rfl, by simp [Hid, nearBest], Below.refl _ _⟩
      case round =>
        obtain ⟨k, q, hkl, hk, hqn, rfl, rfl, HQ, hB⟩ := hrel
        have hcr : wr.cell? ⟨w.heap.size, 0, none⟩ = some (.slice A n c) := (hB.cell (p := ⟨w.heap.size, 0, none⟩) hws).trans hcs
        have hBs := hB.size
        have hwr : w.heap.size < wr.heap.size := by omega
        have HAr := Lib.hid (HA.out.below hB)
        have hW := Below.next hT hB
        have e0 : wr.cell? ⟨w.heap.size + 1, 0, none⟩ = some (.int .i64 p.x) := (hB.cell (p := ⟨w.heap.size + 1, 0, none⟩) hws2).trans f0
        have e1 : wr.cell? ⟨w.heap.size + 1, 1, none⟩ = some (.int .i64 p.y) := (hB.cell (p := ⟨w.heap.size + 1, 1, none⟩) hws2).trans f1
        have e2 : wr.cell? ⟨w.heap.size + 1, 2, none⟩ = some (.int .i64 p.t) := (hB.cell (p := ⟨w.heap.size + 1, 2, none⟩) hws2).trans f2
        have hwr2 : w.heap.size + 1 < wr.heap.size := Nat.lt_of_lt_of_le hws2 hBs
        by_cases hlt : k < n
        · skip
          have ka : k < xs.length := by have := LA.out; omega
          obtain ⟨b1, o1, rfl, l1, a1, a2, a3⟩ := HAr.out.pt LA.out ka
          have kd : q < xs.length := by have := LA.out; omega
          obtain ⟨_, _, e0', _, d1, d2, d3⟩ := HAr.out.pt LA.out kd
          cases e0'
          have E1 : Hid (ptB xs[k] = true) := HP.out k ka
          have E2 : Hid (ptB xs[q] = true) := HP.out q kd
          obtain ⟨v, e3⟩ : ∃ v, decide (distI p xs[k] < distI p xs[q]) = v := ⟨_, rfl⟩
          have hk0 : (0 : Int) ≤ (k : Int) := by omega
          have hkn : (k : Int) < (n : Int) := by omega
          have hq0 : (0 : Int) ≤ (q : Int) := by omega
          have hqn1 : (q : Int) < (n : Int) := by omega
          go_wp2_with fail
          refine wp_region_held_drew (S := (fun w' => (∀ kb ko, kb < (wr.alloc (.cells #[.int .i64 xs[k].x, .int .i64 xs[k].y, .int .i64 xs[k].t] 44)).heap.size → w'.cell? ⟨kb, ko, none⟩ = (wr.alloc (.cells #[.int .i64 xs[k].x, .int .i64 xs[k].y, .int .i64 xs[k].t] 44)).cell? ⟨kb, ko, none⟩) ∧ (wr.alloc (.cells #[.int .i64 xs[k].x, .int .i64 xs[k].y, .int .i64 xs[k].t] 44)).heap.size ≤ w'.heap.size ∧ Below (wr.alloc (.cells #[.int .i64 xs[k].x, .int .i64 xs[k].y, .int .i64 xs[k].t] 44)).heap.size (wr.alloc (.cells #[.int .i64 xs[k].x, .int .i64 xs[k].y, .int .i64 xs[k].t] 44)) w')) (by kernel_rfl) ?_ (fun hHeld => ?_)
          · (try dsimp only); (first | exact SB.mk hkB | exact SB.mk ((Below.refl _ _).drew) | (go_split_ands; refine SB.mk (Below.drew ?_); assumption) | (refine SB.mk ?_; go_grown; done) | (go_split_ands; refine SB.mk ?_; go_grown; done))
          first | (refine take_on (i := 0) (v := ?_) rfl (by kernel_rfl) (by kernel_rfl) (by kernel_rfl) (fun _ _ _ h => h) rfl ?_ (by assumption) ?_; rotate_left; · (intro w' hSw; (try dsimp only at hSw); go_simp; (try with_reducible rfl))) | (refine take_off (i := 0) rfl (by kernel_rfl) (by kernel_rfl) (by kernel_rfl) (fun _ _ _ h => h) rfl (by assumption) ?_)
          (try simp only [Act.put, List.setIfInBounds_toArray, List.set_cons_zero, List.set_cons_succ])
          first | (refine take_on (i := 1) (v := ?_) rfl (by kernel_rfl) (by kernel_rfl) (by kernel_rfl) (fun _ _ _ h => h) rfl ?_ (by assumption) ?_; rotate_left; · (intro w' hSw; (try dsimp only at hSw); go_simp; (try with_reducible rfl))) | (refine take_off (i := 1) rfl (by kernel_rfl) (by kernel_rfl) (by kernel_rfl) (fun _ _ _ h => h) rfl (by assumption) ?_)
          (try simp only [Act.put, List.setIfInBounds_toArray, List.set_cons_zero, List.set_cons_succ])
          first | (refine take_on (i := 3) (v := ?_) rfl (by kernel_rfl) (by kernel_rfl) (by kernel_rfl) (fun _ _ _ h => h) rfl ?_ (by assumption) ?_; rotate_left; · (intro w' hSw; (try dsimp only at hSw); go_simp; (try with_reducible rfl))) | (refine take_off (i := 3) rfl (by kernel_rfl) (by kernel_rfl) (by kernel_rfl) (fun _ _ _ h => h) rfl (by assumption) ?_)
          (try simp only [Act.put, List.setIfInBounds_toArray, List.set_cons_zero, List.set_cons_succ])
          first | (refine take_on (i := 4) (v := ?_) rfl (by kernel_rfl) (by kernel_rfl) (by kernel_rfl) (fun _ _ _ h => h) rfl ?_ (by assumption) ?_; rotate_left; · (intro w' hSw; (try dsimp only at hSw); go_simp; (try with_reducible rfl))) | (refine take_off (i := 4) rfl (by kernel_rfl) (by kernel_rfl) (by kernel_rfl) (fun _ _ _ h => h) rfl (by assumption) ?_)
          (try simp only [Act.put, List.setIfInBounds_toArray, List.set_cons_zero, List.set_cons_succ])
          first | (refine take_on (i := 5) (v := ?_) rfl (by kernel_rfl) (by kernel_rfl) (by kernel_rfl) (fun _ _ _ h => h) rfl ?_ (by assumption) ?_; rotate_left; · (intro w' hSw; (try dsimp only at hSw); go_simp; (try with_reducible rfl))) | (refine take_off (i := 5) rfl (by kernel_rfl) (by kernel_rfl) (by kernel_rfl) (fun _ _ _ h => h) rfl (by assumption) ?_)
          (try simp only [Act.put, List.setIfInBounds_toArray, List.set_cons_zero, List.set_cons_succ])
          first | (refine take_on (i := 6) (v := ?_) rfl (by kernel_rfl) (by kernel_rfl) (by kernel_rfl) (fun _ _ _ h => h) rfl ?_ (by assumption) ?_; rotate_left; · (intro w' hSw; (try dsimp only at hSw); go_simp; (try with_reducible rfl))) | (refine take_off (i := 6) rfl (by kernel_rfl) (by kernel_rfl) (by kernel_rfl) (fun _ _ _ h => h) rfl (by assumption) ?_)
          (try simp only [Act.put, List.setIfInBounds_toArray, List.set_cons_zero, List.set_cons_succ])
          first | (refine take_on (i := 7) (v := ?_) rfl (by kernel_rfl) (by kernel_rfl) (by kernel_rfl) (fun _ _ _ h => h) rfl ?_ (by assumption) ?_; rotate_left; · (intro w' hSw; (try dsimp only at hSw); go_simp; (try with_reducible rfl))) | (refine take_off (i := 7) rfl (by kernel_rfl) (by kernel_rfl) (by kernel_rfl) (fun _ _ _ h => h) rfl (by assumption) ?_)
          (try simp only [Act.put, List.setIfInBounds_toArray, List.set_cons_zero, List.set_cons_succ])
          first | (refine take_on (i := 8) (v := ?_) rfl (by kernel_rfl) (by kernel_rfl) (by kernel_rfl) (fun _ _ _ h => h) rfl ?_ (by assumption) ?_; rotate_left; · (intro w' hSw; (try dsimp only at hSw); go_simp; (try with_reducible rfl))) | (refine take_off (i := 8) rfl (by kernel_rfl) (by kernel_rfl) (by kernel_rfl) (fun _ _ _ h => h) rfl (by assumption) ?_)
          (try simp only [Act.put, List.setIfInBounds_toArray, List.set_cons_zero, List.set_cons_succ])
          refine wpAnyH_ready (rs := [2]) (by kernel_rfl) (by simp) ?_
          refine AllReadyH.cons rfl (fun K hK => ?_) AllReadyH.nil
          rw [if_pos (by rfl)]
          go_simp
          first | (go_at_call 64; (with_reducible refine (squared_any p xs[k] _ HP2.out E1.out).mono ?_); rintro e w' ⟨rfl, hb⟩; obtain ⟨_, hks, hkB⟩ := SB.next (by assumption) hb; obtain ⟨hkc, hkf⟩ := bcell hb; have hkz := hb.size; (try simp only [World.size_alloc, World.size_drew] at hkz); (first | (have hkt := Nat.lt_of_succ_le hkz) | (have hkt := Nat.lt_of_lt_of_le (by assumption) hkz) | skip); clear hb) | (go_at_call 64; (with_reducible refine (squared_any p xs[q] _ HP2.out E2.out).mono ?_); rintro e w' ⟨rfl, hb⟩; obtain ⟨_, hks, hkB⟩ := SB.next (by assumption) hb; obtain ⟨hkc, hkf⟩ := bcell hb; have hkz := hb.size; (try simp only [World.size_alloc, World.size_drew] at hkz); (first | (have hkt := Nat.lt_of_succ_le hkz) | (have hkt := Nat.lt_of_lt_of_le (by assumption) hkz) | skip); clear hb)
          refine hK.out _ _ ?_ (fun hHeld2 => ?_)
          · (try dsimp only); (first | exact SB.mk hkB | exact SB.mk ((Below.refl _ _).drew) | (go_split_ands; refine SB.mk (Below.drew ?_); assumption) | (refine SB.mk ?_; go_grown; done) | (go_split_ands; refine SB.mk ?_; go_grown; done))
          clear hK K hHeld; have hHeld := hHeld2; clear hHeld2; (try simp only [Act.put, List.setIfInBounds_toArray, List.set_cons_zero, List.set_cons_succ])
          refine wpAnyH_ready (rs := [9]) (by kernel_rfl) (by simp) ?_
          refine AllReadyH.cons rfl (fun K hK => ?_) AllReadyH.nil
          rw [if_pos (by rfl)]
          go_simp
          first | (go_at_call 64; (with_reducible refine (squared_any p xs[k] _ HP2.out E1.out).mono ?_); rintro e w' ⟨rfl, hb⟩; obtain ⟨_, hks, hkB⟩ := SB.next (by assumption) hb; obtain ⟨hkc, hkf⟩ := bcell hb; have hkz := hb.size; (try simp only [World.size_alloc, World.size_drew] at hkz); (first | (have hkt := Nat.lt_of_succ_le hkz) | (have hkt := Nat.lt_of_lt_of_le (by assumption) hkz) | skip); clear hb) | (go_at_call 64; (with_reducible refine (squared_any p xs[q] _ HP2.out E2.out).mono ?_); rintro e w' ⟨rfl, hb⟩; obtain ⟨_, hks, hkB⟩ := SB.next (by assumption) hb; obtain ⟨hkc, hkf⟩ := bcell hb; have hkz := hb.size; (try simp only [World.size_alloc, World.size_drew] at hkz); (first | (have hkt := Nat.lt_of_succ_le hkz) | (have hkt := Nat.lt_of_lt_of_le (by assumption) hkz) | skip); clear hb)
          refine hK.out _ _ ?_ (fun hHeld2 => ?_)
          · (try dsimp only); (first | exact SB.mk hkB | exact SB.mk ((Below.refl _ _).drew) | (go_split_ands; refine SB.mk (Below.drew ?_); assumption) | (refine SB.mk ?_; go_grown; done) | (go_split_ands; refine SB.mk ?_; go_grown; done))
          clear hK K hHeld; have hHeld := hHeld2; clear hHeld2; (try simp only [Act.put, List.setIfInBounds_toArray, List.set_cons_zero, List.set_cons_succ])
          first | (refine take_on (i := 10) (v := ?_) rfl (by kernel_rfl) (by kernel_rfl) (by kernel_rfl) (fun _ _ _ h => h) rfl ?_ (by assumption) ?_; rotate_left; · (intro w' hSw; (try dsimp only at hSw); go_simp; (try with_reducible rfl))) | (refine take_off (i := 10) rfl (by kernel_rfl) (by kernel_rfl) (by kernel_rfl) (fun _ _ _ h => h) rfl (by assumption) ?_)
          (try simp only [Act.put, List.setIfInBounds_toArray, List.set_cons_zero, List.set_cons_succ])
          refine wpAnyH_done (by kernel_rfl) ?_ _
          go_split_ands
          cases v
          · have HN : Hid (nearBest xs p (k + 1) = q) := near_no ka kd HQ.out (by have := of_decide_eq_false e3; simpa only [distI_comm] using this)
            go_wp2_with fail
            go_roundw
            case rel => exact ⟨k + 1, q, by omega, by omega, by omega, by go_num, rfl, HN, hB.trans (Below.mono (Below.next ((Below.refl wr.heap.size wr).alloc (Nat.le_refl _) _) (by assumption)) hBs)⟩
            case measure => simp [intOf]; omega
          · have HN : Hid (nearBest xs p (k + 1) = k) := near_yes ka kd HQ.out (by have := of_decide_eq_true e3; simpa only [distI_comm] using this)
            go_wp2_with fail
            go_roundw
            case rel => exact ⟨k + 1, k, by omega, by omega, by omega, by go_num, rfl, HN, hB.trans (Below.mono (Below.next ((Below.refl wr.heap.size wr).alloc (Nat.le_refl _) _) (by assumption)) hBs)⟩
            case measure => simp [intOf]; omega
        · go_wp2_with fail
          go_ret2
          obtain rfl : k = n := by omega
          exact ⟨by rw [hR.out, ← HQ.out]; rfl, by go_grown⟩

set_option maxHeartbeats 4000000 in
theorem sNearestPoint (A : Option Addr) (n c : Nat) (xs : List Pt) (p : Pt) (w : World) (ha : Rd w A n 3 (rowOf ptC xs)) (la : xs.length = n) (hn : n ≤ 1048576) :
    Calls Try.prog 29 #[.agg #[.slice A n c], .agg #[.int .i64 p.x, .int .i64 p.y, .int .i64 p.t]] w fun e w' => e = .returned (.tuple #[.int .i64 (nearR xs p).1, .int .i64 (nearR xs p).2]) ∧ Below w.heap.size w w' := by
  have HV := l02Stroke_any w.heap.size A n c xs ((w.alloc (.cells #[.slice A n c] 35)).alloc (.cells #[.int .i64 p.x, .int .i64 p.y, .int .i64 p.t] 44)) (by go_simp) ((ha.alloc _).alloc _) la hn
  cases h1 : strB xs
  · have hR : Hid (nearR xs p = (0, 1)) := by rw [Hid, nearR, h1]; rfl
    rw [h1] at HV
    clear h1
    go_enter Try.func29, Try.ntmps29
    go_wp2_with fail
    refine HV.mono ?_
    rintro e w2 ⟨rfl, hb⟩
    go_wp2_with fail
    go_ret2
    exact ⟨by rw [hR.out]; rfl, Below.next (by go_grown) hb⟩
  · rw [h1] at HV
    cases h2 : ptB p
    · have hR : Hid (nearR xs p = (0, 1)) := by rw [Hid, nearR, h1, h2]; rfl
      have HP2 : Hid (ptB p = false) := h2
      clear h1 h2
      go_enter Try.func29, Try.ntmps29
      go_wp2_with fail
      refine HV.mono ?_
      rintro e w2 ⟨rfl, hb⟩
      have hT : Below w.heap.size w w2 := Below.next (by go_grown) hb
      have hz := hb.size
      simp only [World.size_alloc] at hz
      have hws : w.heap.size < w2.heap.size := by omega
      have hws2 : w.heap.size + 1 < w2.heap.size := by omega
      have d0 : w2.cell? ⟨w.heap.size + 1, 0, none⟩ = some (.int .i64 p.x) := (hb.cell (p := ⟨w.heap.size + 1, 0, none⟩) (by simp)).trans (by go_simp)
      have d1 : w2.cell? ⟨w.heap.size + 1, 1, none⟩ = some (.int .i64 p.y) := (hb.cell (p := ⟨w.heap.size + 1, 1, none⟩) (by simp)).trans (by go_simp)
      have d2 : w2.cell? ⟨w.heap.size + 1, 2, none⟩ = some (.int .i64 p.t) := (hb.cell (p := ⟨w.heap.size + 1, 2, none⟩) (by simp)).trans (by go_simp)
      go_wp2_with fail
      refine (l02Point_of HP2 _).mono ?_
      rintro e w3 ⟨rfl, hb3⟩
      go_wp2_with fail
      go_ret2
      exact ⟨by rw [hR.out]; rfl, Below.next hT hb3⟩
    · have hR : Hid (nearR xs p = (((nearBest xs p n : Nat) : Int), 0)) := by rw [Hid, nearR, h1, h2, la]; rfl
      have HP2 : Hid (ptB p = true) := h2
      obtain ⟨hn1, hn60, hpt, htt⟩ := strB_true h1
      have HP : Hid (ptsB xs) := hpt
      rw [la] at hn1 hn60
      have HA0 := Lib.hid ((ha.alloc (.cells #[.slice A n c] 35)).alloc (.cells #[.int .i64 p.x, .int .i64 p.y, .int .i64 p.t] 44))
      have LA := Lib.hid la
      clear h1 h2 hpt htt ha la
      go_enter Try.func29, Try.ntmps29
      go_wp2_with fail
      refine HV.mono ?_
      rintro e w1 ⟨rfl, hb⟩
      clear HV
      have hT1 : Below w.heap.size w w1 := Below.next (by go_grown) hb
      have hz := hb.size
      simp only [World.size_alloc] at hz
      have hws1 : w.heap.size < w1.heap.size := by omega
      have hws12 : w.heap.size + 1 < w1.heap.size := by omega
      have hcs1 : w1.cell? ⟨w.heap.size, 0, none⟩ = some (.slice A n c) := (hb.cell (p := ⟨w.heap.size, 0, none⟩) (by simp; omega)).trans (by go_simp)
      have d0 : w1.cell? ⟨w.heap.size + 1, 0, none⟩ = some (.int .i64 p.x) := (hb.cell (p := ⟨w.heap.size + 1, 0, none⟩) (by simp)).trans (by go_simp)
      have d1 : w1.cell? ⟨w.heap.size + 1, 1, none⟩ = some (.int .i64 p.y) := (hb.cell (p := ⟨w.heap.size + 1, 1, none⟩) (by simp)).trans (by go_simp)
      have d2 : w1.cell? ⟨w.heap.size + 1, 2, none⟩ = some (.int .i64 p.t) := (hb.cell (p := ⟨w.heap.size + 1, 2, none⟩) (by simp)).trans (by go_simp)
      have HA1 := Lib.hid (HA0.out.below hb)
      go_wp2_with fail
      refine (l02Point_of HP2 _).mono ?_
      rintro e w2 ⟨rfl, hb2⟩
      have hT := Below.next hT1 hb2
      have hws : w.heap.size < w2.heap.size := Nat.lt_of_lt_of_le hws1 hb2.size
      have hws2 : w.heap.size + 1 < w2.heap.size := Nat.lt_of_lt_of_le hws12 hb2.size
      have hcs : w2.cell? ⟨w.heap.size, 0, none⟩ = some (.slice A n c) := (hb2.cell (p := ⟨w.heap.size, 0, none⟩) hws1).trans hcs1
      have f0 : w2.cell? ⟨w.heap.size + 1, 0, none⟩ = some (.int .i64 p.x) := (hb2.cell (p := ⟨w.heap.size + 1, 0, none⟩) hws12).trans d0
      have f1 : w2.cell? ⟨w.heap.size + 1, 1, none⟩ = some (.int .i64 p.y) := (hb2.cell (p := ⟨w.heap.size + 1, 1, none⟩) hws12).trans d1
      have f2 : w2.cell? ⟨w.heap.size + 1, 2, none⟩ = some (.int .i64 p.t) := (hb2.cell (p := ⟨w.heap.size + 1, 2, none⟩) hws12).trans d2
      have HA := Lib.hid (HA1.out.below hb2)
      clear d0 d1 d2 hcs1 HA0 HA1 hb hb2
      go_wp2_with fail
      go_loopw [6, 7] (fun b i wr => ∃ k q : Nat, 1 ≤ k ∧ k ≤ n ∧ q < n ∧ i = .int .i64 k ∧ b = .int .i64 (q : Int) ∧ Hid (nearBest xs p k = q) ∧ Below w2.heap.size w2 wr) (fun _ i _ => n - (intOf i).toNat)
      case atStart => exact ⟨1, 0, by omega, by omega, by omega, rfl, rfl, by simp [Hid, nearBest], Below.refl _ _⟩
      case round =>
        obtain ⟨k, q, hkl, hk, hqn, rfl, rfl, HQ, hB⟩ := hrel
        have hcr : wr.cell? ⟨w.heap.size, 0, none⟩ = some (.slice A n c) := (hB.cell (p := ⟨w.heap.size, 0, none⟩) hws).trans hcs
        have hBs := hB.size
        have hwr : w.heap.size < wr.heap.size := by omega
        have HAr := Lib.hid (HA.out.below hB)
        have hW := Below.next hT hB
        have e0 : wr.cell? ⟨w.heap.size + 1, 0, none⟩ = some (.int .i64 p.x) := (hB.cell (p := ⟨w.heap.size + 1, 0, none⟩) hws2).trans f0
        have e1 : wr.cell? ⟨w.heap.size + 1, 1, none⟩ = some (.int .i64 p.y) := (hB.cell (p := ⟨w.heap.size + 1, 1, none⟩) hws2).trans f1
        have e2 : wr.cell? ⟨w.heap.size + 1, 2, none⟩ = some (.int .i64 p.t) := (hB.cell (p := ⟨w.heap.size + 1, 2, none⟩) hws2).trans f2
        have hwr2 : w.heap.size + 1 < wr.heap.size := Nat.lt_of_lt_of_le hws2 hBs
        by_cases hlt : k < n
        · skip
          have ka : k < xs.length := by have := LA.out; omega
          obtain ⟨b1, o1, rfl, l1, a1, a2, a3⟩ := HAr.out.pt LA.out ka
          have kd : q < xs.length := by have := LA.out; omega
          obtain ⟨_, _, e0', _, d1, d2, d3⟩ := HAr.out.pt LA.out kd
          cases e0'
          have E1 : Hid (ptB xs[k] = true) := HP.out k ka
          have E2 : Hid (ptB xs[q] = true) := HP.out q kd
          obtain ⟨v, e3⟩ : ∃ v, decide (distI xs[k] p < distI xs[q] p) = v := ⟨_, rfl⟩
          have hk0 : (0 : Int) ≤ (k : Int) := by omega
          have hkn : (k : Int) < (n : Int) := by omega
          have hq0 : (0 : Int) ≤ (q : Int) := by omega
          have hqn1 : (q : Int) < (n : Int) := by omega
          go_wp2_with fail
          refine wp_region_held_drew (S := (fun w' => (∀ kb ko, kb < wr.heap.size → w'.cell? ⟨kb, ko, none⟩ = wr.cell? ⟨kb, ko, none⟩) ∧ wr.heap.size ≤ w'.heap.size ∧ Below wr.heap.size wr w')) (by kernel_rfl) ?_ (fun hHeld => ?_)
          · (try dsimp only); (first | exact SB.mk hkB | exact SB.mk ((Below.refl _ _).drew) | (go_split_ands; refine SB.mk (Below.drew ?_); assumption) | (refine SB.mk ?_; go_grown; done) | (go_split_ands; refine SB.mk ?_; go_grown; done))
          first | (refine take_on (i := 0) (v := ?_) rfl (by kernel_rfl) (by kernel_rfl) (by kernel_rfl) (fun _ _ _ h => h) rfl ?_ (by assumption) ?_; rotate_left; · (intro w' hSw; (try dsimp only at hSw); go_simp; (try with_reducible rfl))) | (refine take_off (i := 0) rfl (by kernel_rfl) (by kernel_rfl) (by kernel_rfl) (fun _ _ _ h => h) rfl (by assumption) ?_)
          (try simp only [Act.put, List.setIfInBounds_toArray, List.set_cons_zero, List.set_cons_succ])
          first | (refine take_on (i := 1) (v := ?_) rfl (by kernel_rfl) (by kernel_rfl) (by kernel_rfl) (fun _ _ _ h => h) rfl ?_ (by assumption) ?_; rotate_left; · (intro w' hSw; (try dsimp only at hSw); go_simp; (try with_reducible rfl))) | (refine take_off (i := 1) rfl (by kernel_rfl) (by kernel_rfl) (by kernel_rfl) (fun _ _ _ h => h) rfl (by assumption) ?_)
          (try simp only [Act.put, List.setIfInBounds_toArray, List.set_cons_zero, List.set_cons_succ])
          first | (refine take_on (i := 2) (v := ?_) rfl (by kernel_rfl) (by kernel_rfl) (by kernel_rfl) (fun _ _ _ h => h) rfl ?_ (by assumption) ?_; rotate_left; · (intro w' hSw; (try dsimp only at hSw); go_simp; (try with_reducible rfl))) | (refine take_off (i := 2) rfl (by kernel_rfl) (by kernel_rfl) (by kernel_rfl) (fun _ _ _ h => h) rfl (by assumption) ?_)
          (try simp only [Act.put, List.setIfInBounds_toArray, List.set_cons_zero, List.set_cons_succ])
          first | (refine take_on (i := 3) (v := ?_) rfl (by kernel_rfl) (by kernel_rfl) (by kernel_rfl) (fun _ _ _ h => h) rfl ?_ (by assumption) ?_; rotate_left; · (intro w' hSw; (try dsimp only at hSw); go_simp; (try with_reducible rfl))) | (refine take_off (i := 3) rfl (by kernel_rfl) (by kernel_rfl) (by kernel_rfl) (fun _ _ _ h => h) rfl (by assumption) ?_)
          (try simp only [Act.put, List.setIfInBounds_toArray, List.set_cons_zero, List.set_cons_succ])
          first | (refine take_on (i := 4) (v := ?_) rfl (by kernel_rfl) (by kernel_rfl) (by kernel_rfl) (fun _ _ _ h => h) rfl ?_ (by assumption) ?_; rotate_left; · (intro w' hSw; (try dsimp only at hSw); go_simp; (try with_reducible rfl))) | (refine take_off (i := 4) rfl (by kernel_rfl) (by kernel_rfl) (by kernel_rfl) (fun _ _ _ h => h) rfl (by assumption) ?_)
          (try simp only [Act.put, List.setIfInBounds_toArray, List.set_cons_zero, List.set_cons_succ])
          first | (refine take_on (i := 5) (v := ?_) rfl (by kernel_rfl) (by kernel_rfl) (by kernel_rfl) (fun _ _ _ h => h) rfl ?_ (by assumption) ?_; rotate_left; · (intro w' hSw; (try dsimp only at hSw); go_simp; (try with_reducible rfl))) | (refine take_off (i := 5) rfl (by kernel_rfl) (by kernel_rfl) (by kernel_rfl) (fun _ _ _ h => h) rfl (by assumption) ?_)
          (try simp only [Act.put, List.setIfInBounds_toArray, List.set_cons_zero, List.set_cons_succ])
          first | (refine take_on (i := 7) (v := ?_) rfl (by kernel_rfl) (by kernel_rfl) (by kernel_rfl) (fun _ _ _ h => h) rfl ?_ (by assumption) ?_; rotate_left; · (intro w' hSw; (try dsimp only at hSw); go_simp; (try with_reducible rfl))) | (refine take_off (i := 7) rfl (by kernel_rfl) (by kernel_rfl) (by kernel_rfl) (fun _ _ _ h => h) rfl (by assumption) ?_)
          (try simp only [Act.put, List.setIfInBounds_toArray, List.set_cons_zero, List.set_cons_succ])
          first | (refine take_on (i := 8) (v := ?_) rfl (by kernel_rfl) (by kernel_rfl) (by kernel_rfl) (fun _ _ _ h => h) rfl ?_ (by assumption) ?_; rotate_left; · (intro w' hSw; (try dsimp only at hSw); go_simp; (try with_reducible rfl))) | (refine take_off (i := 8) rfl (by kernel_rfl) (by kernel_rfl) (by kernel_rfl) (fun _ _ _ h => h) rfl (by assumption) ?_)
          (try simp only [Act.put, List.setIfInBounds_toArray, List.set_cons_zero, List.set_cons_succ])
          first | (refine take_on (i := 9) (v := ?_) rfl (by kernel_rfl) (by kernel_rfl) (by kernel_rfl) (fun _ _ _ h => h) rfl ?_ (by assumption) ?_; rotate_left; · (intro w' hSw; (try dsimp only at hSw); go_simp; (try with_reducible rfl))) | (refine take_off (i := 9) rfl (by kernel_rfl) (by kernel_rfl) (by kernel_rfl) (fun _ _ _ h => h) rfl (by assumption) ?_)
          (try simp only [Act.put, List.setIfInBounds_toArray, List.set_cons_zero, List.set_cons_succ])
          first | (refine take_on (i := 10) (v := ?_) rfl (by kernel_rfl) (by kernel_rfl) (by kernel_rfl) (fun _ _ _ h => h) rfl ?_ (by assumption) ?_; rotate_left; · (intro w' hSw; (try dsimp only at hSw); go_simp; (try with_reducible rfl))) | (refine take_off (i := 10) rfl (by kernel_rfl) (by kernel_rfl) (by kernel_rfl) (fun _ _ _ h => h) rfl (by assumption) ?_)
          (try simp only [Act.put, List.setIfInBounds_toArray, List.set_cons_zero, List.set_cons_succ])
          first | (refine take_on (i := 11) (v := ?_) rfl (by kernel_rfl) (by kernel_rfl) (by kernel_rfl) (fun _ _ _ h => h) rfl ?_ (by assumption) ?_; rotate_left; · (intro w' hSw; (try dsimp only at hSw); go_simp; (try with_reducible rfl))) | (refine take_off (i := 11) rfl (by kernel_rfl) (by kernel_rfl) (by kernel_rfl) (fun _ _ _ h => h) rfl (by assumption) ?_)
          (try simp only [Act.put, List.setIfInBounds_toArray, List.set_cons_zero, List.set_cons_succ])
          first | (refine take_on (i := 12) (v := ?_) rfl (by kernel_rfl) (by kernel_rfl) (by kernel_rfl) (fun _ _ _ h => h) rfl ?_ (by assumption) ?_; rotate_left; · (intro w' hSw; (try dsimp only at hSw); go_simp; (try with_reducible rfl))) | (refine take_off (i := 12) rfl (by kernel_rfl) (by kernel_rfl) (by kernel_rfl) (fun _ _ _ h => h) rfl (by assumption) ?_)
          (try simp only [Act.put, List.setIfInBounds_toArray, List.set_cons_zero, List.set_cons_succ])
          refine wpAnyH_ready (rs := [6]) (by kernel_rfl) (by simp) ?_
          refine AllReadyH.cons rfl (fun K hK => ?_) AllReadyH.nil
          rw [if_pos (by rfl)]
          go_simp
          first | (go_at_call 63; (with_reducible refine (l05Far_any xs[k] p _ E1.out HP2.out).mono ?_); rintro e w' ⟨rfl, hb⟩; obtain ⟨_, hks, hkB⟩ := SB.next (by assumption) hb; obtain ⟨hkc, hkf⟩ := bcell hb; have hkz := hb.size; (try simp only [World.size_alloc, World.size_drew] at hkz); (first | (have hkt := Nat.lt_of_succ_le hkz) | (have hkt := Nat.lt_of_lt_of_le (by assumption) hkz) | skip); clear hb) | (go_at_call 63; (with_reducible refine (l05Far_any xs[q] p _ E2.out HP2.out).mono ?_); rintro e w' ⟨rfl, hb⟩; obtain ⟨_, hks, hkB⟩ := SB.next (by assumption) hb; obtain ⟨hkc, hkf⟩ := bcell hb; have hkz := hb.size; (try simp only [World.size_alloc, World.size_drew] at hkz); (first | (have hkt := Nat.lt_of_succ_le hkz) | (have hkt := Nat.lt_of_lt_of_le (by assumption) hkz) | skip); clear hb)
          refine hK.out _ _ ?_ (fun hHeld2 => ?_)
          · (try dsimp only); (first | exact SB.mk hkB | exact SB.mk ((Below.refl _ _).drew) | (go_split_ands; refine SB.mk (Below.drew ?_); assumption) | (refine SB.mk ?_; go_grown; done) | (go_split_ands; refine SB.mk ?_; go_grown; done))
          clear hK K hHeld; have hHeld := hHeld2; clear hHeld2; (try simp only [Act.put, List.setIfInBounds_toArray, List.set_cons_zero, List.set_cons_succ])
          refine wpAnyH_ready (rs := [13]) (by kernel_rfl) (by simp) ?_
          refine AllReadyH.cons rfl (fun K hK => ?_) AllReadyH.nil
          rw [if_pos (by rfl)]
          go_simp
          first | (go_at_call 63; (with_reducible refine (l05Far_any xs[k] p _ E1.out HP2.out).mono ?_); rintro e w' ⟨rfl, hb⟩; obtain ⟨_, hks, hkB⟩ := SB.next (by assumption) hb; obtain ⟨hkc, hkf⟩ := bcell hb; have hkz := hb.size; (try simp only [World.size_alloc, World.size_drew] at hkz); (first | (have hkt := Nat.lt_of_succ_le hkz) | (have hkt := Nat.lt_of_lt_of_le (by assumption) hkz) | skip); clear hb) | (go_at_call 63; (with_reducible refine (l05Far_any xs[q] p _ E2.out HP2.out).mono ?_); rintro e w' ⟨rfl, hb⟩; obtain ⟨_, hks, hkB⟩ := SB.next (by assumption) hb; obtain ⟨hkc, hkf⟩ := bcell hb; have hkz := hb.size; (try simp only [World.size_alloc, World.size_drew] at hkz); (first | (have hkt := Nat.lt_of_succ_le hkz) | (have hkt := Nat.lt_of_lt_of_le (by assumption) hkz) | skip); clear hb)
          refine hK.out _ _ ?_ (fun hHeld2 => ?_)
          · (try dsimp only); (first | exact SB.mk hkB | exact SB.mk ((Below.refl _ _).drew) | (go_split_ands; refine SB.mk (Below.drew ?_); assumption) | (refine SB.mk ?_; go_grown; done) | (go_split_ands; refine SB.mk ?_; go_grown; done))
          clear hK K hHeld; have hHeld := hHeld2; clear hHeld2; (try simp only [Act.put, List.setIfInBounds_toArray, List.set_cons_zero, List.set_cons_succ])
          first | (refine take_on (i := 14) (v := ?_) rfl (by kernel_rfl) (by kernel_rfl) (by kernel_rfl) (fun _ _ _ h => h) rfl ?_ (by assumption) ?_; rotate_left; · (intro w' hSw; (try dsimp only at hSw); go_simp; (try with_reducible rfl))) | (refine take_off (i := 14) rfl (by kernel_rfl) (by kernel_rfl) (by kernel_rfl) (fun _ _ _ h => h) rfl (by assumption) ?_)
          (try simp only [Act.put, List.setIfInBounds_toArray, List.set_cons_zero, List.set_cons_succ])
          refine wpAnyH_done (by kernel_rfl) ?_ _
          go_split_ands
          cases v
          · have HN : Hid (nearBest xs p (k + 1) = q) := near_no ka kd HQ.out (by have := of_decide_eq_false e3; simpa only [distI_comm] using this)
            go_wp2_with fail
            go_roundw
            case rel => exact ⟨k + 1, q, by omega, by omega, by omega, by go_num, rfl, HN, Below.next hB (by assumption)⟩
            case measure => simp [intOf]; omega
          · have HN : Hid (nearBest xs p (k + 1) = k) := near_yes ka kd HQ.out (by have := of_decide_eq_true e3; simpa only [distI_comm] using this)
            go_wp2_with fail
            go_roundw
            case rel => exact ⟨k + 1, k, by omega, by omega, by omega, by go_num, rfl, HN, Below.next hB (by assumption)⟩
            case measure => simp [intOf]; omega
        · go_wp2_with fail
          go_ret2
          obtain rfl : k = n := by omega
          exact ⟨by rw [hR.out, ← HQ.out]; rfl, by go_grown⟩
end Go.Proofs.Ytcglcfjonicjgaa
