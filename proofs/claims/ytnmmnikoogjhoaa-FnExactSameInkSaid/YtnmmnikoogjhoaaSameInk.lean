/-
  Two inks are equal: program and reference say the same.
-/
import Derived.Test.YtnmmnikoogjhoaaInkTo
import Derived.Test.YtnmmnikoogjhoaaSamePts
namespace Go.Proofs.Ytnmmnikoogjhoaa
set_option linter.unusedSimpArgs false
set_option linter.unusedVariables false
set_option maxRecDepth 20000
open Go.RowKit
open Go.ChangeShapes Go.WideShapes Go.Deep Go.Joins

open Classical in
noncomputable def sameKB (P Q : List (List Pt)) : Bool := decide (P = Q)
theorem sameKB_yes {P Q : List (List Pt)} (h : P = Q) : true = sameKB P Q := by unfold sameKB; rw [decide_eq_true h]
theorem sameKB_no {P Q : List (List Pt)} (h : ¬ P = Q) : false = sameKB P Q := by unfold sameKB; rw [decide_eq_false h]
theorem samePB_t {xs ys : List Pt} (h : samePB xs ys = true) : xs = ys := by unfold samePB at h; exact of_decide_eq_true h
theorem samePB_f {xs ys : List Pt} (h : samePB xs ys = false) : ¬ xs = ys := by unfold samePB at h; exact of_decide_eq_false h
theorem pts_more {S T : List St} {k : Nat} (ha : k < S.length) (hb : k < T.length) (h : (ptsOf S).take k = (ptsOf T).take k) (he : samePB S[k].l T[k].l = true) : (ptsOf S).take (k + 1) = (ptsOf T).take (k + 1) := by
  have ha' : k < (ptsOf S).length := by rw [ptsOf_len]; exact ha
  have hb' : k < (ptsOf T).length := by rw [ptsOf_len]; exact hb
  refine take_moreP ha' hb' h ?_
  simpa [ptsOf] using samePB_t he
theorem pts_part {S T : List St} {k : Nat} (ha : k < S.length) (hb : k < T.length) (he : samePB S[k].l T[k].l = false) : ¬ ptsOf S = ptsOf T := fun e => samePB_f he (ptsOf_at e ha hb).symm
theorem pts_all {S T : List St} {k : Nat} (ha : S.length ≤ k) (hb : T.length ≤ k) (h : (ptsOf S).take k = (ptsOf T).take k) : ptsOf S = ptsOf T := take_allP (by rw [ptsOf_len]; exact ha) (by rw [ptsOf_len]; exact hb) h
theorem pts_len {S T : List St} {n m : Nat} (ha : S.length = n) (hb : T.length = m) (h : ¬ n = m) : ¬ ptsOf S = ptsOf T := fun e => h (by rw [← ha, ← hb, ← ptsOf_len S, e, ptsOf_len])

theorem sameClosure {v : Bool} (A B : Option Addr) (n m c d : Nat) (xs ys : List Pt) (w : World) (hv : Hid (samePB xs ys = v)) (ha : Rd w A n 3 (rowOf ptC xs)) (hb : Rd w B m 3 (rowOf ptC ys)) (la : xs.length = n) (lb : ys.length = m) (hn : n ≤ 1048576) (hm : m ≤ 1048576) :
    Calls Try.prog 49 #[.agg #[.slice A n c], .agg #[.slice B m d]] w fun e w' => e = .returned (.bool v) ∧ Below w.heap.size w w' := by
  have HA := Lib.hid ((ha.alloc (.cells #[.slice A n c] 52)).alloc (.cells #[.slice B m d] 52))
  have HD := Lib.hid ((hb.alloc (.cells #[.slice A n c] 52)).alloc (.cells #[.slice B m d] 52))
  have LA := Lib.hid la
  have LD := Lib.hid lb
  clear ha hb la lb
  go_enter Try.func49, Try.ntmps49
  go_wp2_with fail
  refine (equalPts_any A B n m c d xs ys _ HA.out HD.out LA.out LD.out hn hm).mono ?_
  rintro e w2 ⟨rfl, hb2⟩
  have hB : Below w.heap.size w w2 := Below.next (by go_grown) hb2
  clear hb2 HA HD
  go_wp2_with fail
  go_ret
  exact ⟨ret_bool hv.out, hB⟩
theorem sameStroke_of {v : Bool} {b1 o1 b2 o2 : Nat} {A B : Option Addr} {n m c d : Nat} {xs ys : List Pt} (w : World) (hv : Hid (samePB xs ys = v)) (hc1 : w.cell? ⟨b1, o1, none⟩ = some (.slice A n c)) (hc2 : w.cell? ⟨b2, o2, none⟩ = some (.slice B m d)) (ha : Rd w A n 3 (rowOf ptC xs)) (hb : Rd w B m 3 (rowOf ptC ys)) (la : xs.length = n) (lb : ys.length = m) (hn : n ≤ 1048576) (hm : m ≤ 1048576) :
    Calls Try.prog 81 #[.pointer (some ⟨b1, o1, none⟩), .pointer (some ⟨b2, o2, none⟩)] w fun e w' => e = .returned (.bool v) ∧ Below w.heap.size w w' := by
  rw [← hv.out]; exact l02SameStroke_any b1 o1 b2 o2 A B n m c d xs ys w hc1 hc2 ha hb la lb hn hm

set_option maxHeartbeats 8000000 in
theorem equalFunc_any (A B : Option Addr) (n m c d : Nat) (S T : List St) (w : World) (ha : InkRd w A n S) (hb : InkRd w B m T) (hs : ∀ s ∈ S, s.l.length ≤ 1048576) (ht : ∀ s ∈ T, s.l.length ≤ 1048576) (hn : n ≤ 1048576) (hm : m ≤ 1048576) :
    Calls Try.prog 48 #[.slice A n c, .slice B m d, .func (.func 49) #[] #[]] w fun e w' => e = .returned (.bool (sameKB (ptsOf S) (ptsOf T))) ∧ Below w.heap.size w w' := by
  have HA := Lib.hid ha
  have HD := Lib.hid hb
  have LA := Lib.hid ha.len
  have LD := Lib.hid hb.len
  clear ha hb
  by_cases hl : n = m
  · subst hl
    go_enter Try.func48, Try.ntmps48
    go_wp2_with fail
    go_loopw [17] (fun i wr => ∃ k : Nat, k ≤ n ∧ i = .int .i64 (k : Int) ∧ Hid ((ptsOf S).take k = (ptsOf T).take k) ∧ Below w.heap.size w wr) (fun i _ => n - (intOf i).toNat)
    case atStart => exact ⟨0, Nat.zero_le _, rfl, rfl, Below.refl _ _⟩
    case round =>
      obtain ⟨k, hk, rfl, hsame, hW⟩ := hrel
      have hWs := hW.size
      by_cases hlt : k < n
      · have ka : k < S.length := by have := LA.out; omega
        have kb : k < T.length := by have := LD.out; omega
        obtain ⟨b3, o3, rfl, l3, c1, p1⟩ := (HA.out.below hW).at ka
        obtain ⟨b4, o4, rfl, l4, c2, p2⟩ := (HD.out.below hW).at kb
        have hsa := hs _ (List.getElem_mem ka)
        have hsb := ht _ (List.getElem_mem kb)
        have hk0 : (0 : Int) ≤ (k : Int) := by omega
        have hkn : (k : Int) < (n : Int) := by omega
        have P1 := Lib.hid ((p1.alloc (.cells #[.slice S[k].A S[k].l.length S[k].c] 52)).alloc (.cells #[.slice T[k].A T[k].l.length T[k].c] 52))
        have P2 := Lib.hid ((p2.alloc (.cells #[.slice S[k].A S[k].l.length S[k].c] 52)).alloc (.cells #[.slice T[k].A T[k].l.length T[k].c] 52))
        clear p1 p2
        cases e1 : samePB S[k].l T[k].l
        · have hne : Hid (¬ ptsOf S = ptsOf T) := pts_part ka kb e1
          have E1 := Lib.hid e1
          clear e1
          go_wp2_with fail
          refine (sameClosure S[k].A T[k].A S[k].l.length T[k].l.length S[k].c T[k].c S[k].l T[k].l _ E1 P1.out P2.out rfl rfl hsa hsb).mono ?_
          rintro e w2 ⟨rfl, hb2⟩
          have hW2 := hW.trans ((Below.next (by go_grown) hb2 : Below wr.heap.size wr w2).mono hW.size)
          clear hb2
          go_wp2_with fail
          go_ret
          exact ⟨ret_bool (sameKB_no hne.out), hW2⟩
        · have heq2 : Hid ((ptsOf S).take (k + 1) = (ptsOf T).take (k + 1)) := pts_more ka kb hsame.out e1
          have E1 := Lib.hid e1
          clear e1
          go_wp2_with fail
          refine (sameClosure S[k].A T[k].A S[k].l.length T[k].l.length S[k].c T[k].c S[k].l T[k].l _ E1 P1.out P2.out rfl rfl hsa hsb).mono ?_
          rintro e w2 ⟨rfl, hb2⟩
          have hW2 := hW.trans ((Below.next (by go_grown) hb2 : Below wr.heap.size wr w2).mono hW.size)
          clear hb2
          go_wp2_with fail
          go_roundw
          case rel => exact ⟨k + 1, by omega, by go_num, heq2, hW2⟩
          case measure => simp [intOf]; omega
      · have hq : Hid (ptsOf S = ptsOf T) := pts_all (k := k) (by have := LA.out; omega) (by have := LD.out; omega) hsame.out
        go_wp2_with fail
        go_ret
        exact ⟨ret_bool (sameKB_yes hq.out), hW⟩
  · have hne : Hid (¬ ptsOf S = ptsOf T) := pts_len LA.out LD.out hl
    have hlb : decide (n = m) = false := decide_eq_false hl
    go_enter Try.func48, Try.ntmps48
    go_wp2_with fail
    go_ret
    exact ⟨ret_bool (sameKB_no hne.out), Below.refl _ _⟩

set_option maxHeartbeats 8000000 in
theorem l02Same_any (b1 o1 b2 o2 : Nat) (A B : Option Addr) (n m c d : Nat) (S T : List St) (w : World) (hc1 : w.cell? ⟨b1, o1, none⟩ = some (.slice A n c)) (hc2 : w.cell? ⟨b2, o2, none⟩ = some (.slice B m d)) (ha : InkRd w A n S) (hb : InkRd w B m T) (hs : ∀ s ∈ S, s.l.length ≤ 1048576) (ht : ∀ s ∈ T, s.l.length ≤ 1048576) (hn : n ≤ 1048576) (hm : m ≤ 1048576) :
    Calls Try.prog 47 #[.pointer (some ⟨b1, o1, none⟩), .pointer (some ⟨b2, o2, none⟩)] w fun e w' => e = .returned (.bool (sameKB (ptsOf S) (ptsOf T))) ∧ Below w.heap.size w w' := by
  have HA := Lib.hid ha
  have HD := Lib.hid hb
  have LA := Lib.hid ha.len
  have LD := Lib.hid hb.len
  clear ha hb
  have hl1 : b1 < w.heap.size := block_lt_of_cell hc1
  have hl2 : b2 < w.heap.size := block_lt_of_cell hc2
  by_cases hl : n = m
  · subst hl
    go_enter Try.func47, Try.ntmps47
    go_wp2_with fail
    go_quiet (fail)
    go_wp2_with fail
    go_loopw [5] (fun i wr => ∃ k : Nat, k ≤ n ∧ i = .int .i64 (k : Int) ∧ Hid ((ptsOf S).take k = (ptsOf T).take k) ∧ Below w.heap.size w wr) (fun i _ => n - (intOf i).toNat)
    case atStart => exact ⟨0, Nat.zero_le _, rfl, rfl, below_drewN (Below.refl _ _) _⟩
    case round =>
      obtain ⟨k, hk, rfl, hsame, hW⟩ := hrel
      have hWs := hW.size
      have hd1 : wr.cell? ⟨b1, o1, none⟩ = some (.slice A n c) := (hW.cell (p := ⟨b1, o1, none⟩) hl1).trans hc1
      have hd2 : wr.cell? ⟨b2, o2, none⟩ = some (.slice B n d) := (hW.cell (p := ⟨b2, o2, none⟩) hl2).trans hc2
      have hl3 : b1 < wr.heap.size := by omega
      have hl4 : b2 < wr.heap.size := by omega
      by_cases hlt : k < n
      · have ka : k < S.length := by have := LA.out; omega
        have kb : k < T.length := by have := LD.out; omega
        obtain ⟨b3, o3, rfl, l3, c1, p1⟩ := (HA.out.below hW).at ka
        obtain ⟨b4, o4, rfl, l4, c2, p2⟩ := (HD.out.below hW).at kb
        have hsa := hs _ (List.getElem_mem ka)
        have hsb := ht _ (List.getElem_mem kb)
        have hk0 : (0 : Int) ≤ (k : Int) := by omega
        have hkn : (k : Int) < (n : Int) := by omega
        have P1 := Lib.hid p1
        have P2 := Lib.hid p2
        have c1d : wr.drew.cell? ⟨b3, o3 + k, none⟩ = some (.slice S[k].A S[k].l.length S[k].c) := c1
        have c2d : wr.drew.cell? ⟨b4, o4 + k, none⟩ = some (.slice T[k].A T[k].l.length T[k].c) := c2
        clear p1 p2
        cases e1 : samePB S[k].l T[k].l
        · have hne : Hid (¬ ptsOf S = ptsOf T) := pts_part ka kb e1
          have E1 := Lib.hid e1
          clear e1
          go_wp2_with fail
          refine wp_region_held_drew (S := (fun w' => (∀ kb ko, kb < wr.heap.size → w'.cell? ⟨kb, ko, none⟩ = wr.cell? ⟨kb, ko, none⟩) ∧ wr.heap.size ≤ w'.heap.size ∧ Below wr.heap.size wr w')) (by kernel_rfl) ?_ (fun hHeld => ?_)
          · (try dsimp only); (first | exact SB.mk hkB | exact SB.mk ((Below.refl _ _).drew) | (go_split_ands; refine SB.mk (Below.drew ?_); assumption) | (refine SB.mk ?_; go_grown; done) | (go_split_ands; refine SB.mk ?_; go_grown; done))
          first | (refine take_on (i := 0) (v := ?_) rfl (by kernel_rfl) (by kernel_rfl) (by kernel_rfl) (fun _ _ _ h => h) rfl ?_ (by assumption) ?_; rotate_left; · (intro w' hSw; (try dsimp only at hSw); go_simp; (try with_reducible rfl))) | (refine take_off (i := 0) rfl (by kernel_rfl) (by kernel_rfl) (by kernel_rfl) (fun _ _ _ h => h) rfl (by assumption) ?_)
          (try simp only [Act.put, List.setIfInBounds_toArray, List.set_cons_zero, List.set_cons_succ])
          first | (refine take_on (i := 1) (v := ?_) rfl (by kernel_rfl) (by kernel_rfl) (by kernel_rfl) (fun _ _ _ h => h) rfl ?_ (by assumption) ?_; rotate_left; · (intro w' hSw; (try dsimp only at hSw); go_simp; (try with_reducible rfl))) | (refine take_off (i := 1) rfl (by kernel_rfl) (by kernel_rfl) (by kernel_rfl) (fun _ _ _ h => h) rfl (by assumption) ?_)
          (try simp only [Act.put, List.setIfInBounds_toArray, List.set_cons_zero, List.set_cons_succ])
          first | (refine take_on (i := 2) (v := ?_) rfl (by kernel_rfl) (by kernel_rfl) (by kernel_rfl) (fun _ _ _ h => h) rfl ?_ (by assumption) ?_; rotate_left; · (intro w' hSw; (try dsimp only at hSw); go_simp; (try with_reducible rfl))) | (refine take_off (i := 2) rfl (by kernel_rfl) (by kernel_rfl) (by kernel_rfl) (fun _ _ _ h => h) rfl (by assumption) ?_)
          (try simp only [Act.put, List.setIfInBounds_toArray, List.set_cons_zero, List.set_cons_succ])
          first | (refine take_on (i := 3) (v := ?_) rfl (by kernel_rfl) (by kernel_rfl) (by kernel_rfl) (fun _ _ _ h => h) rfl ?_ (by assumption) ?_; rotate_left; · (intro w' hSw; (try dsimp only at hSw); go_simp; (try with_reducible rfl))) | (refine take_off (i := 3) rfl (by kernel_rfl) (by kernel_rfl) (by kernel_rfl) (fun _ _ _ h => h) rfl (by assumption) ?_)
          (try simp only [Act.put, List.setIfInBounds_toArray, List.set_cons_zero, List.set_cons_succ])
          first | (refine take_on (i := 4) (v := ?_) rfl (by kernel_rfl) (by kernel_rfl) (by kernel_rfl) (fun _ _ _ h => h) rfl ?_ (by assumption) ?_; rotate_left; · (intro w' hSw; (try dsimp only at hSw); go_simp; (try with_reducible rfl))) | (refine take_off (i := 4) rfl (by kernel_rfl) (by kernel_rfl) (by kernel_rfl) (fun _ _ _ h => h) rfl (by assumption) ?_)
          (try simp only [Act.put, List.setIfInBounds_toArray, List.set_cons_zero, List.set_cons_succ])
          first | (refine take_on (i := 5) (v := ?_) rfl (by kernel_rfl) (by kernel_rfl) (by kernel_rfl) (fun _ _ _ h => h) rfl ?_ (by assumption) ?_; rotate_left; · (intro w' hSw; (try dsimp only at hSw); go_simp; (try with_reducible rfl))) | (refine take_off (i := 5) rfl (by kernel_rfl) (by kernel_rfl) (by kernel_rfl) (fun _ _ _ h => h) rfl (by assumption) ?_)
          (try simp only [Act.put, List.setIfInBounds_toArray, List.set_cons_zero, List.set_cons_succ])
          first | (refine take_on (i := 6) (v := ?_) rfl (by kernel_rfl) (by kernel_rfl) (by kernel_rfl) (fun _ _ _ h => h) rfl ?_ (by assumption) ?_; rotate_left; · (intro w' hSw; (try dsimp only at hSw); go_simp; (try with_reducible rfl))) | (refine take_off (i := 6) rfl (by kernel_rfl) (by kernel_rfl) (by kernel_rfl) (fun _ _ _ h => h) rfl (by assumption) ?_)
          (try simp only [Act.put, List.setIfInBounds_toArray, List.set_cons_zero, List.set_cons_succ])
          first | (refine take_on (i := 7) (v := ?_) rfl (by kernel_rfl) (by kernel_rfl) (by kernel_rfl) (fun _ _ _ h => h) rfl ?_ (by assumption) ?_; rotate_left; · (intro w' hSw; (try dsimp only at hSw); go_simp; (try with_reducible rfl))) | (refine take_off (i := 7) rfl (by kernel_rfl) (by kernel_rfl) (by kernel_rfl) (fun _ _ _ h => h) rfl (by assumption) ?_)
          (try simp only [Act.put, List.setIfInBounds_toArray, List.set_cons_zero, List.set_cons_succ])
          first | (refine take_on (i := 8) (v := ?_) rfl (by kernel_rfl) (by kernel_rfl) (by kernel_rfl) (fun _ _ _ h => h) rfl ?_ (by assumption) ?_; rotate_left; · (intro w' hSw; (try dsimp only at hSw); go_simp; (try with_reducible rfl))) | (refine take_off (i := 8) rfl (by kernel_rfl) (by kernel_rfl) (by kernel_rfl) (fun _ _ _ h => h) rfl (by assumption) ?_)
          (try simp only [Act.put, List.setIfInBounds_toArray, List.set_cons_zero, List.set_cons_succ])
          first | (refine take_on (i := 9) (v := ?_) rfl (by kernel_rfl) (by kernel_rfl) (by kernel_rfl) (fun _ _ _ h => h) rfl ?_ (by assumption) ?_; rotate_left; · (intro w' hSw; (try dsimp only at hSw); go_simp; (try with_reducible rfl))) | (refine take_off (i := 9) rfl (by kernel_rfl) (by kernel_rfl) (by kernel_rfl) (fun _ _ _ h => h) rfl (by assumption) ?_)
          (try simp only [Act.put, List.setIfInBounds_toArray, List.set_cons_zero, List.set_cons_succ])
          first | (refine take_on (i := 10) (v := ?_) rfl (by kernel_rfl) (by kernel_rfl) (by kernel_rfl) (fun _ _ _ h => h) rfl ?_ (by assumption) ?_; rotate_left; · (intro w' hSw; (try dsimp only at hSw); go_simp; (try with_reducible rfl))) | (refine take_off (i := 10) rfl (by kernel_rfl) (by kernel_rfl) (by kernel_rfl) (fun _ _ _ h => h) rfl (by assumption) ?_)
          (try simp only [Act.put, List.setIfInBounds_toArray, List.set_cons_zero, List.set_cons_succ])
          first | (refine take_on (i := 11) (v := ?_) rfl (by kernel_rfl) (by kernel_rfl) (by kernel_rfl) (fun _ _ _ h => h) rfl ?_ (by assumption) ?_; rotate_left; · (intro w' hSw; (try dsimp only at hSw); go_simp; (try with_reducible rfl))) | (refine take_off (i := 11) rfl (by kernel_rfl) (by kernel_rfl) (by kernel_rfl) (fun _ _ _ h => h) rfl (by assumption) ?_)
          (try simp only [Act.put, List.setIfInBounds_toArray, List.set_cons_zero, List.set_cons_succ])
          refine wpAnyH_ready (rs := [12]) (by kernel_rfl) (by simp) ?_
          refine AllReadyH.cons rfl (fun K hK => ?_) AllReadyH.nil
          rw [if_pos (by rfl)]
          go_simp
          first | (go_at_call 81; (with_reducible refine (sameStroke_of _ E1 (by first | exact c1 | exact c1d) (by first | exact c2 | exact c2d) (by first | exact P1.out | exact P1.out.drew) (by first | exact P2.out | exact P2.out.drew) rfl rfl hsa hsb).mono ?_); rintro e w' ⟨rfl, hb⟩; obtain ⟨_, hks, hkB⟩ := SB.next (by assumption) hb; obtain ⟨hkc, hkf⟩ := bcell hb; have hkz := hb.size; (try simp only [World.size_alloc, World.size_drew] at hkz); (first | (have hkt := Nat.lt_of_succ_le hkz) | (have hkt := Nat.lt_of_lt_of_le (by assumption) hkz) | skip); clear hb)
          refine hK.out _ _ ?_ (fun hHeld2 => ?_)
          · (try dsimp only); (first | exact SB.mk hkB | exact SB.mk ((Below.refl _ _).drew) | (go_split_ands; refine SB.mk (Below.drew ?_); assumption) | (refine SB.mk ?_; go_grown; done) | (go_split_ands; refine SB.mk ?_; go_grown; done))
          clear hK K hHeld; have hHeld := hHeld2; clear hHeld2; (try simp only [Act.put, List.setIfInBounds_toArray, List.set_cons_zero, List.set_cons_succ])
          first | (refine take_on (i := 13) (v := ?_) rfl (by kernel_rfl) (by kernel_rfl) (by kernel_rfl) (fun _ _ _ h => h) rfl ?_ (by assumption) ?_; rotate_left; · (intro w' hSw; (try dsimp only at hSw); go_simp; (try with_reducible rfl))) | (refine take_off (i := 13) rfl (by kernel_rfl) (by kernel_rfl) (by kernel_rfl) (fun _ _ _ h => h) rfl (by assumption) ?_)
          (try simp only [Act.put, List.setIfInBounds_toArray, List.set_cons_zero, List.set_cons_succ])
          refine wpAnyH_done (by kernel_rfl) ?_ _
          go_split_ands
          go_wp2_with fail
          go_ret
          exact ⟨ret_bool (sameKB_no hne.out), Below.next hW (by assumption)⟩
        · have heq2 : Hid ((ptsOf S).take (k + 1) = (ptsOf T).take (k + 1)) := pts_more ka kb hsame.out e1
          have E1 := Lib.hid e1
          clear e1
          go_wp2_with fail
          refine wp_region_held_drew (S := (fun w' => (∀ kb ko, kb < wr.heap.size → w'.cell? ⟨kb, ko, none⟩ = wr.cell? ⟨kb, ko, none⟩) ∧ wr.heap.size ≤ w'.heap.size ∧ Below wr.heap.size wr w')) (by kernel_rfl) ?_ (fun hHeld => ?_)
          · (try dsimp only); (first | exact SB.mk hkB | exact SB.mk ((Below.refl _ _).drew) | (go_split_ands; refine SB.mk (Below.drew ?_); assumption) | (refine SB.mk ?_; go_grown; done) | (go_split_ands; refine SB.mk ?_; go_grown; done))
          first | (refine take_on (i := 0) (v := ?_) rfl (by kernel_rfl) (by kernel_rfl) (by kernel_rfl) (fun _ _ _ h => h) rfl ?_ (by assumption) ?_; rotate_left; · (intro w' hSw; (try dsimp only at hSw); go_simp; (try with_reducible rfl))) | (refine take_off (i := 0) rfl (by kernel_rfl) (by kernel_rfl) (by kernel_rfl) (fun _ _ _ h => h) rfl (by assumption) ?_)
          (try simp only [Act.put, List.setIfInBounds_toArray, List.set_cons_zero, List.set_cons_succ])
          first | (refine take_on (i := 1) (v := ?_) rfl (by kernel_rfl) (by kernel_rfl) (by kernel_rfl) (fun _ _ _ h => h) rfl ?_ (by assumption) ?_; rotate_left; · (intro w' hSw; (try dsimp only at hSw); go_simp; (try with_reducible rfl))) | (refine take_off (i := 1) rfl (by kernel_rfl) (by kernel_rfl) (by kernel_rfl) (fun _ _ _ h => h) rfl (by assumption) ?_)
          (try simp only [Act.put, List.setIfInBounds_toArray, List.set_cons_zero, List.set_cons_succ])
          first | (refine take_on (i := 2) (v := ?_) rfl (by kernel_rfl) (by kernel_rfl) (by kernel_rfl) (fun _ _ _ h => h) rfl ?_ (by assumption) ?_; rotate_left; · (intro w' hSw; (try dsimp only at hSw); go_simp; (try with_reducible rfl))) | (refine take_off (i := 2) rfl (by kernel_rfl) (by kernel_rfl) (by kernel_rfl) (fun _ _ _ h => h) rfl (by assumption) ?_)
          (try simp only [Act.put, List.setIfInBounds_toArray, List.set_cons_zero, List.set_cons_succ])
          first | (refine take_on (i := 3) (v := ?_) rfl (by kernel_rfl) (by kernel_rfl) (by kernel_rfl) (fun _ _ _ h => h) rfl ?_ (by assumption) ?_; rotate_left; · (intro w' hSw; (try dsimp only at hSw); go_simp; (try with_reducible rfl))) | (refine take_off (i := 3) rfl (by kernel_rfl) (by kernel_rfl) (by kernel_rfl) (fun _ _ _ h => h) rfl (by assumption) ?_)
          (try simp only [Act.put, List.setIfInBounds_toArray, List.set_cons_zero, List.set_cons_succ])
          first | (refine take_on (i := 4) (v := ?_) rfl (by kernel_rfl) (by kernel_rfl) (by kernel_rfl) (fun _ _ _ h => h) rfl ?_ (by assumption) ?_; rotate_left; · (intro w' hSw; (try dsimp only at hSw); go_simp; (try with_reducible rfl))) | (refine take_off (i := 4) rfl (by kernel_rfl) (by kernel_rfl) (by kernel_rfl) (fun _ _ _ h => h) rfl (by assumption) ?_)
          (try simp only [Act.put, List.setIfInBounds_toArray, List.set_cons_zero, List.set_cons_succ])
          first | (refine take_on (i := 5) (v := ?_) rfl (by kernel_rfl) (by kernel_rfl) (by kernel_rfl) (fun _ _ _ h => h) rfl ?_ (by assumption) ?_; rotate_left; · (intro w' hSw; (try dsimp only at hSw); go_simp; (try with_reducible rfl))) | (refine take_off (i := 5) rfl (by kernel_rfl) (by kernel_rfl) (by kernel_rfl) (fun _ _ _ h => h) rfl (by assumption) ?_)
          (try simp only [Act.put, List.setIfInBounds_toArray, List.set_cons_zero, List.set_cons_succ])
          first | (refine take_on (i := 6) (v := ?_) rfl (by kernel_rfl) (by kernel_rfl) (by kernel_rfl) (fun _ _ _ h => h) rfl ?_ (by assumption) ?_; rotate_left; · (intro w' hSw; (try dsimp only at hSw); go_simp; (try with_reducible rfl))) | (refine take_off (i := 6) rfl (by kernel_rfl) (by kernel_rfl) (by kernel_rfl) (fun _ _ _ h => h) rfl (by assumption) ?_)
          (try simp only [Act.put, List.setIfInBounds_toArray, List.set_cons_zero, List.set_cons_succ])
          first | (refine take_on (i := 7) (v := ?_) rfl (by kernel_rfl) (by kernel_rfl) (by kernel_rfl) (fun _ _ _ h => h) rfl ?_ (by assumption) ?_; rotate_left; · (intro w' hSw; (try dsimp only at hSw); go_simp; (try with_reducible rfl))) | (refine take_off (i := 7) rfl (by kernel_rfl) (by kernel_rfl) (by kernel_rfl) (fun _ _ _ h => h) rfl (by assumption) ?_)
          (try simp only [Act.put, List.setIfInBounds_toArray, List.set_cons_zero, List.set_cons_succ])
          first | (refine take_on (i := 8) (v := ?_) rfl (by kernel_rfl) (by kernel_rfl) (by kernel_rfl) (fun _ _ _ h => h) rfl ?_ (by assumption) ?_; rotate_left; · (intro w' hSw; (try dsimp only at hSw); go_simp; (try with_reducible rfl))) | (refine take_off (i := 8) rfl (by kernel_rfl) (by kernel_rfl) (by kernel_rfl) (fun _ _ _ h => h) rfl (by assumption) ?_)
          (try simp only [Act.put, List.setIfInBounds_toArray, List.set_cons_zero, List.set_cons_succ])
          first | (refine take_on (i := 9) (v := ?_) rfl (by kernel_rfl) (by kernel_rfl) (by kernel_rfl) (fun _ _ _ h => h) rfl ?_ (by assumption) ?_; rotate_left; · (intro w' hSw; (try dsimp only at hSw); go_simp; (try with_reducible rfl))) | (refine take_off (i := 9) rfl (by kernel_rfl) (by kernel_rfl) (by kernel_rfl) (fun _ _ _ h => h) rfl (by assumption) ?_)
          (try simp only [Act.put, List.setIfInBounds_toArray, List.set_cons_zero, List.set_cons_succ])
          first | (refine take_on (i := 10) (v := ?_) rfl (by kernel_rfl) (by kernel_rfl) (by kernel_rfl) (fun _ _ _ h => h) rfl ?_ (by assumption) ?_; rotate_left; · (intro w' hSw; (try dsimp only at hSw); go_simp; (try with_reducible rfl))) | (refine take_off (i := 10) rfl (by kernel_rfl) (by kernel_rfl) (by kernel_rfl) (fun _ _ _ h => h) rfl (by assumption) ?_)
          (try simp only [Act.put, List.setIfInBounds_toArray, List.set_cons_zero, List.set_cons_succ])
          first | (refine take_on (i := 11) (v := ?_) rfl (by kernel_rfl) (by kernel_rfl) (by kernel_rfl) (fun _ _ _ h => h) rfl ?_ (by assumption) ?_; rotate_left; · (intro w' hSw; (try dsimp only at hSw); go_simp; (try with_reducible rfl))) | (refine take_off (i := 11) rfl (by kernel_rfl) (by kernel_rfl) (by kernel_rfl) (fun _ _ _ h => h) rfl (by assumption) ?_)
          (try simp only [Act.put, List.setIfInBounds_toArray, List.set_cons_zero, List.set_cons_succ])
          refine wpAnyH_ready (rs := [12]) (by kernel_rfl) (by simp) ?_
          refine AllReadyH.cons rfl (fun K hK => ?_) AllReadyH.nil
          rw [if_pos (by rfl)]
          go_simp
          first | (go_at_call 81; (with_reducible refine (sameStroke_of _ E1 (by first | exact c1 | exact c1d) (by first | exact c2 | exact c2d) (by first | exact P1.out | exact P1.out.drew) (by first | exact P2.out | exact P2.out.drew) rfl rfl hsa hsb).mono ?_); rintro e w' ⟨rfl, hb⟩; obtain ⟨_, hks, hkB⟩ := SB.next (by assumption) hb; obtain ⟨hkc, hkf⟩ := bcell hb; have hkz := hb.size; (try simp only [World.size_alloc, World.size_drew] at hkz); (first | (have hkt := Nat.lt_of_succ_le hkz) | (have hkt := Nat.lt_of_lt_of_le (by assumption) hkz) | skip); clear hb)
          refine hK.out _ _ ?_ (fun hHeld2 => ?_)
          · (try dsimp only); (first | exact SB.mk hkB | exact SB.mk ((Below.refl _ _).drew) | (go_split_ands; refine SB.mk (Below.drew ?_); assumption) | (refine SB.mk ?_; go_grown; done) | (go_split_ands; refine SB.mk ?_; go_grown; done))
          clear hK K hHeld; have hHeld := hHeld2; clear hHeld2; (try simp only [Act.put, List.setIfInBounds_toArray, List.set_cons_zero, List.set_cons_succ])
          first | (refine take_on (i := 13) (v := ?_) rfl (by kernel_rfl) (by kernel_rfl) (by kernel_rfl) (fun _ _ _ h => h) rfl ?_ (by assumption) ?_; rotate_left; · (intro w' hSw; (try dsimp only at hSw); go_simp; (try with_reducible rfl))) | (refine take_off (i := 13) rfl (by kernel_rfl) (by kernel_rfl) (by kernel_rfl) (fun _ _ _ h => h) rfl (by assumption) ?_)
          (try simp only [Act.put, List.setIfInBounds_toArray, List.set_cons_zero, List.set_cons_succ])
          refine wpAnyH_done (by kernel_rfl) ?_ _
          go_split_ands
          go_wp2_with fail
          go_roundw
          case rel => exact ⟨k + 1, by omega, by go_num, heq2, Below.next hW (by assumption)⟩
          case measure => simp [intOf]; omega
      · have hq : Hid (ptsOf S = ptsOf T) := pts_all (k := k) (by have := LA.out; omega) (by have := LD.out; omega) hsame.out
        go_wp2_with fail
        go_ret
        exact ⟨ret_bool (sameKB_yes hq.out), hW⟩
  · have hne : Hid (¬ ptsOf S = ptsOf T) := pts_len LA.out LD.out hl
    have hlb : decide (n = m) = false := decide_eq_false hl
    go_enter Try.func47, Try.ntmps47
    go_wp2_with fail
    go_quiet (fail)
    go_wp2_with fail
    go_ret
    exact ⟨ret_bool (sameKB_no hne.out), below_drewN (Below.refl _ _) _⟩

set_option maxHeartbeats 4000000 in
theorem iSameInk (A B : Option Addr) (n m c d : Nat) (S T : List St) (P Q : List (List Pt)) (w : World) (ha : InkRd w A n S) (hb : InkRd w B m T) (hP : ptsOf S = P) (hQ : ptsOf T = Q) (hs : ∀ s ∈ S, s.l.length ≤ 1048576) (ht : ∀ s ∈ T, s.l.length ≤ 1048576) (hn : n ≤ 1048576) (hm : m ≤ 1048576) :
    Calls Try.prog 17 #[.agg #[.slice A n c], .agg #[.slice B m d]] w fun e w' => e = .returned (.bool (sameKB P Q)) ∧ Below w.heap.size w w' := by
  subst hP; subst hQ
  have HA := Lib.hid ((ha.alloc (.cells #[.slice A n c] 29)).alloc (.cells #[.slice B m d] 29))
  have HD := Lib.hid ((hb.alloc (.cells #[.slice A n c] 29)).alloc (.cells #[.slice B m d] 29))
  clear ha hb
  go_enter Try.func17, Try.ntmps17
  go_wp2_with fail
  refine (equalFunc_any A B n m c d S T _ HA.out HD.out hs ht hn hm).mono ?_
  rintro e w2 ⟨rfl, hb2⟩
  have hB : Below w.heap.size w w2 := Below.next (by go_grown) hb2
  clear hb2 HA HD
  go_wp2_with fail
  go_ret
  exact ⟨rfl, hB⟩

set_option maxHeartbeats 4000000 in
theorem sSameInk (A B : Option Addr) (n m c d : Nat) (S T : List St) (P Q : List (List Pt)) (w : World) (ha : InkRd w A n S) (hb : InkRd w B m T) (hP : ptsOf S = P) (hQ : ptsOf T = Q) (hs : ∀ s ∈ S, s.l.length ≤ 1048576) (ht : ∀ s ∈ T, s.l.length ≤ 1048576) (hn : n ≤ 1048576) (hm : m ≤ 1048576) :
    Calls Try.prog 16 #[.agg #[.slice A n c], .agg #[.slice B m d]] w fun e w' => e = .returned (.bool (sameKB P Q)) ∧ Below w.heap.size w w' := by
  subst hP; subst hQ
  have HA := Lib.hid ((ha.alloc (.cells #[.slice A n c] 29)).alloc (.cells #[.slice B m d] 29))
  have HD := Lib.hid ((hb.alloc (.cells #[.slice A n c] 29)).alloc (.cells #[.slice B m d] 29))
  clear ha hb
  go_enter Try.func16, Try.ntmps16
  go_wp2_with fail
  refine (l02Same_any _ 0 _ 0 A B n m c d S T _ (by go_simp) (by go_simp) HA.out HD.out hs ht hn hm).mono ?_
  rintro e w2 ⟨rfl, hb2⟩
  have hB : Below w.heap.size w w2 := Below.next (by go_grown) hb2
  clear hb2 HA HD
  go_wp2_with fail
  go_ret
  exact ⟨rfl, hB⟩
end Go.Proofs.Ytnmmnikoogjhoaa
