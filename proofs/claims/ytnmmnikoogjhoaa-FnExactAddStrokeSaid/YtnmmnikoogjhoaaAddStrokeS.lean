/-
  A stroke added to an ink: program and reference give the same.
-/
import Derived.Test.YtnmmnikoogjhoaaAddStrokeI
namespace Go.Proofs.Ytnmmnikoogjhoaa
set_option linter.unusedSimpArgs false
set_option linter.unusedVariables false
set_option maxRecDepth 20000
open Go.RowKit
open Go.ChangeShapes Go.WideShapes Go.Deep Go.Joins

theorem nextB_at {S : List St} {l : List Pt} {j : Nat} (hl : S.length = j + 1) (hj : j < S.length) : nextB (ptsOf S) l = decide (lT S[j].l < fT l) := by
  have e : (ptsOf S).getD ((ptsOf S).length - 1) [] = S[j].l := by rw [ptsOf_len, hl, Nat.add_sub_cancel]; simp [ptsOf, List.getD_eq_getElem?_getD, List.getElem?_eq_getElem hj]
  unfold nextB
  rw [e, ptsOf_len, hl]
  simp

set_option maxHeartbeats 1500000 in
theorem sAddStroke (A : Option Addr) (n c : Nat) (S : List St) (B : Option Addr) (m d : Nat) (xs : List Pt) (N : Nat) (code : Int) (P L : List (List Pt)) (w : World) (h : InkRd w A n S) (hP : ptsOf S = P) (hs : ∀ s ∈ S, s.l.length ≤ 1048576) (hn : n ≤ 1048576) (ha : Rd w B m 3 (rowOf ptC xs)) (la : xs.length = m) (hm : m ≤ 1048576) (hR : addR P xs = (L, code)) (hN : L.length = N) :
    Calls Try.prog 30 #[.agg #[.slice A n c], .agg #[.slice B m d]] w fun e w' => ∃ A2 c2 T, e = .returned (.tuple #[.agg #[.slice A2 N c2], .int .i64 code]) ∧ ptsOf T = L ∧ InkOwn w' w.heap.size w'.heap.size (.slice A2 N c2) T ∧ Below w.heap.size w w' := by
  subst hP
  have HV := l02Ok_any w.heap.size 0 A n c S (((w.alloc (.cells #[.slice A n c] 29)).alloc (.cells #[.slice B m d] 52)).alloc (.cells #[.slice none 0 0] 29)) (by go_simp) (((h.alloc _).alloc _).alloc _) hs hn
  have ho0 := Bk.new2 w (.cells #[.slice A n c] 29) (.cells #[.slice B m d] 52) #[.slice none 0 0] 29
  have HA0 : Hid (InkRd (((w.alloc (.cells #[.slice A n c] 29)).alloc (.cells #[.slice B m d] 52)).alloc (.cells #[.slice none 0 0] 29)) A n S) := ((h.alloc _).alloc _).alloc _
  have HX0 : Hid (Rd (((w.alloc (.cells #[.slice A n c] 29)).alloc (.cells #[.slice B m d] 52)).alloc (.cells #[.slice none 0 0] 29)) B m 3 (rowOf ptC xs)) := ((ha.alloc _).alloc _).alloc _
  have LA := Lib.hid h.len
  have LX := Lib.hid la
  have PL : Hid ((ptsOf S).length = n) := by rw [Hid, ptsOf_len]; exact h.len
  clear h ha la
  have start : Hid (∀ w2, Below (((w.alloc (.cells #[.slice A n c] 29)).alloc (.cells #[.slice B m d] 52)).alloc (.cells #[.slice none 0 0] 29)).heap.size (((w.alloc (.cells #[.slice A n c] 29)).alloc (.cells #[.slice B m d] 52)).alloc (.cells #[.slice none 0 0] 29)) w2 → w.heap.size < w2.heap.size ∧ w.heap.size + 1 < w2.heap.size ∧ w.heap.size + 1 + 1 < w2.heap.size ∧ w2.cell? ⟨w.heap.size, 0, none⟩ = some (.slice A n c) ∧ w2.cell? ⟨w.heap.size + 1, 0, none⟩ = some (.slice B m d) ∧ Bk w2 (w.heap.size + 1 + 1) 29 #[.slice none 0 0] ∧ Below w.heap.size w w2) := fun w2 hb => by
    have hz := hb.size
    simp only [World.size_alloc] at hz
    exact ⟨by omega, by omega, by omega, (hb.cell (p := ⟨w.heap.size, 0, none⟩) (by simp only [World.size_alloc]; omega)).trans (by go_simp), (hb.cell (p := ⟨w.heap.size + 1, 0, none⟩) (by simp only [World.size_alloc]; omega)).trans (by go_simp), ho0.below hb (by simp only [World.size_alloc]; omega), Below.next (by go_grown) hb⟩
  clear ho0
  cases h1 : inkB (ptsOf S)
  · rw [h1] at HV
    rw [addR_no h1] at hR
    injection hR with e1 e2
    subst e1; subst e2
    obtain rfl : N = 0 := hN.symm
    clear h1 hN
    go_enter Try.func30, Try.ntmps30
    go_wp2_with fail
    refine HV.mono ?_
    rintro e w2 ⟨rfl, hb⟩
    clear HV
    obtain ⟨hws, hws1, hws2, hcs, hcx, ho, hT⟩ := start.out w2 hb
    obtain ⟨o0, p0⟩ := bk1 ho
    clear hb
    go_wp2_with fail
    refine bodyPost_ret (by simp [results, Try.results30, go_sem, *]; try rfl) rfl ?_
    exact ⟨none, 0, [], rfl, rfl, InkOwn.nil _ _ _, by go_grown⟩
  rw [h1] at HV
  have H1 := Lib.hid h1
  have hpos : ∀ s ∈ S, 0 < s.l.length ∧ s.l.length ≤ 1048576 := fun s hs2 => ⟨inkB_pos h1 s hs2, hs s hs2⟩
  clear h1
  cases h2 : strB xs
  · rw [addR_bad H1.out h2] at hR
    injection hR with e1 e2
    subst e1; subst e2
    obtain rfl : N = 0 := hN.symm
    have H2 := Lib.hid h2
    clear h2 hN
    go_enter Try.func30, Try.ntmps30
    go_wp2_with fail
    refine HV.mono ?_
    rintro e w2 ⟨rfl, hb⟩
    clear HV
    obtain ⟨hws, hws1, hws2, hcs, hcx, ho, hT⟩ := start.out w2 hb
    have HA2 := Lib.hid (HA0.out.below hb)
    have HX2 := Lib.hid (HX0.out.below hb)
    obtain ⟨o0, p0⟩ := bk1 ho
    clear hb
    go_wp2_with fail
    refine (l02Stroke_of H2 _ hcx HX2.out LX.out hm).mono ?_
    rintro e w3 ⟨rfl, hb3⟩
    have hT3 := Below.next hT hb3
    have hws3 : w.heap.size < w3.heap.size := Nat.lt_of_lt_of_le hws hb3.size
    have hws4 : w.heap.size + 1 < w3.heap.size := Nat.lt_of_lt_of_le hws1 hb3.size
    have hws5 : w.heap.size + 1 + 1 < w3.heap.size := Nat.lt_of_lt_of_le hws2 hb3.size
    have hcs3 : w3.cell? ⟨w.heap.size, 0, none⟩ = some (.slice A n c) := (hb3.cell (p := ⟨w.heap.size, 0, none⟩) hws).trans hcs
    have hcx3 : w3.cell? ⟨w.heap.size + 1, 0, none⟩ = some (.slice B m d) := (hb3.cell (p := ⟨w.heap.size + 1, 0, none⟩) hws1).trans hcx
    have ho3 := ho.next hb3
    have HA3 := Lib.hid (HA2.out.below hb3)
    have HX3 := Lib.hid (HX2.out.below hb3)
    obtain ⟨o3, p3⟩ := bk1 ho3
    clear hb3 o0 p0 hcs hcx ho HA2 HX2
    go_wp2_with fail
    refine bodyPost_ret (by simp [results, Try.results30, go_sem, *]; try rfl) rfl ?_
    exact ⟨none, 0, [], rfl, rfl, InkOwn.nil _ _ _, by go_grown⟩
  have H2 := Lib.hid h2
  have hx0 : 0 < m := by have := (strB_true h2).1; have := LX.out; omega
  clear h2
  by_cases hfull : n < 16
  rotate_left
  · rw [addR_full H1.out H2.out (by rw [PL.out]; exact hfull)] at hR
    injection hR with e1 e2
    subst e1; subst e2
    obtain rfl : N = 0 := hN.symm
    have hf2 : decide (16 ≤ n) = true := decide_eq_true (by omega)
    clear hN
    go_enter Try.func30, Try.ntmps30
    go_wp2_with fail
    refine HV.mono ?_
    rintro e w2 ⟨rfl, hb⟩
    clear HV
    obtain ⟨hws, hws1, hws2, hcs, hcx, ho, hT⟩ := start.out w2 hb
    have HA2 := Lib.hid (HA0.out.below hb)
    have HX2 := Lib.hid (HX0.out.below hb)
    obtain ⟨o0, p0⟩ := bk1 ho
    clear hb
    go_wp2_with fail
    refine (l02Stroke_of H2 _ hcx HX2.out LX.out hm).mono ?_
    rintro e w3 ⟨rfl, hb3⟩
    have hT3 := Below.next hT hb3
    have hws3 : w.heap.size < w3.heap.size := Nat.lt_of_lt_of_le hws hb3.size
    have hws4 : w.heap.size + 1 < w3.heap.size := Nat.lt_of_lt_of_le hws1 hb3.size
    have hws5 : w.heap.size + 1 + 1 < w3.heap.size := Nat.lt_of_lt_of_le hws2 hb3.size
    have hcs3 : w3.cell? ⟨w.heap.size, 0, none⟩ = some (.slice A n c) := (hb3.cell (p := ⟨w.heap.size, 0, none⟩) hws).trans hcs
    have hcx3 : w3.cell? ⟨w.heap.size + 1, 0, none⟩ = some (.slice B m d) := (hb3.cell (p := ⟨w.heap.size + 1, 0, none⟩) hws1).trans hcx
    have ho3 := ho.next hb3
    have HA3 := Lib.hid (HA2.out.below hb3)
    have HX3 := Lib.hid (HX2.out.below hb3)
    obtain ⟨o3, p3⟩ := bk1 ho3
    clear hb3 o0 p0 hcs hcx ho HA2 HX2
    go_wp2_with fail
    refine bodyPost_ret (by simp [results, Try.results30, go_sem, *]; try rfl) rfl ?_
    exact ⟨none, 0, [], rfl, rfl, InkOwn.nil _ _ _, by go_grown⟩
  have hf2 : decide (16 ≤ n) = false := decide_eq_false (by omega)
  have hf3 : ¬ 16 ≤ n := by omega
  have HF : Hid ((ptsOf S).length < 16) := by rw [Hid, PL.out]; exact hfull
  have hx1 : 0 < xs.length := by have := LX.out; omega
  rcases n with _ | j
  · have h4 : nextB (ptsOf S) xs = true := decide_eq_true (.inl PL.out)
    rw [addR_ok H1.out H2.out HF.out h4] at hR
    injection hR with e1 e2
    subst e2
    have HE : Hid (L = ptsOf S ++ [xs]) := e1.symm
    obtain rfl : N = 0 + 1 := by rw [← hN, ← e1, List.length_append, PL.out]; rfl
    clear h4 hN e1
    have hi0 : decide (0 < 0) = false := rfl
    go_enter Try.func30, Try.ntmps30
    go_wp2_with fail
    refine HV.mono ?_
    rintro e w2 ⟨rfl, hb⟩
    clear HV
    obtain ⟨hws, hws1, hws2, hcs, hcx, ho, hT⟩ := start.out w2 hb
    have HA2 := Lib.hid (HA0.out.below hb)
    have HX2 := Lib.hid (HX0.out.below hb)
    obtain ⟨o0, p0⟩ := bk1 ho
    clear hb
    go_wp2_with fail
    refine (l02Stroke_of H2 _ hcx HX2.out LX.out hm).mono ?_
    rintro e w3 ⟨rfl, hb3⟩
    have hT3 := Below.next hT hb3
    have hws3 : w.heap.size < w3.heap.size := Nat.lt_of_lt_of_le hws hb3.size
    have hws4 : w.heap.size + 1 < w3.heap.size := Nat.lt_of_lt_of_le hws1 hb3.size
    have hws5 : w.heap.size + 1 + 1 < w3.heap.size := Nat.lt_of_lt_of_le hws2 hb3.size
    have hcs3 : w3.cell? ⟨w.heap.size, 0, none⟩ = some (.slice A 0 c) := (hb3.cell (p := ⟨w.heap.size, 0, none⟩) hws).trans hcs
    have hcx3 : w3.cell? ⟨w.heap.size + 1, 0, none⟩ = some (.slice B m d) := (hb3.cell (p := ⟨w.heap.size + 1, 0, none⟩) hws1).trans hcx
    have ho3 := ho.next hb3
    have HA3 := Lib.hid (HA2.out.below hb3)
    have HX3 := Lib.hid (HX2.out.below hb3)
    obtain ⟨o3, p3⟩ := bk1 ho3
    clear hb3 o0 p0 hcs hcx ho HA2 HX2
    go_wp2_with fail
    refine wp_region_held_drew (S := (fun w' => (∀ kb ko, kb < w3.heap.size → w'.cell? ⟨kb, ko, none⟩ = w3.cell? ⟨kb, ko, none⟩) ∧ w3.heap.size ≤ w'.heap.size ∧ Below w3.heap.size w3 w')) (by kernel_rfl) ?_ (fun hHeld => ?_)
    · (try dsimp only); (first | exact SB.mk hkB | exact SB.mk ((Below.refl _ _).drew) | (go_split_ands; refine SB.mk (Below.drew ?_); assumption) | (refine SB.mk ?_; go_grown; done) | (go_split_ands; refine SB.mk ?_; go_grown; done))
    first | (refine take_on (i := 0) (v := ?_) rfl (by kernel_rfl) (by kernel_rfl) (by kernel_rfl) (fun _ _ _ h => h) rfl ?_ (by assumption) ?_; rotate_left; · (intro w' hSw; (try dsimp only at hSw); go_simp; (try with_reducible rfl))) | (refine take_off (i := 0) rfl (by kernel_rfl) (by kernel_rfl) (by kernel_rfl) (fun _ _ _ h => h) rfl (by assumption) ?_)
    (try simp only [Act.put, List.setIfInBounds_toArray, List.set_cons_zero, List.set_cons_succ])
    first | (refine take_on (i := 1) (v := ?_) rfl (by kernel_rfl) (by kernel_rfl) (by kernel_rfl) (fun _ _ _ h => h) rfl ?_ (by assumption) ?_; rotate_left; · (intro w' hSw; (try dsimp only at hSw); go_simp; (try with_reducible rfl))) | (refine take_off (i := 1) rfl (by kernel_rfl) (by kernel_rfl) (by kernel_rfl) (fun _ _ _ h => h) rfl (by assumption) ?_)
    (try simp only [Act.put, List.setIfInBounds_toArray, List.set_cons_zero, List.set_cons_succ])
    first | (refine take_on (i := 2) (v := ?_) rfl (by kernel_rfl) (by kernel_rfl) (by kernel_rfl) (fun _ _ _ h => h) rfl ?_ (by assumption) ?_; rotate_left; · (intro w' hSw; (try dsimp only at hSw); go_simp; (try with_reducible rfl))) | (refine take_off (i := 2) rfl (by kernel_rfl) (by kernel_rfl) (by kernel_rfl) (fun _ _ _ h => h) rfl (by assumption) ?_)
    (try simp only [Act.put, List.setIfInBounds_toArray, List.set_cons_zero, List.set_cons_succ])
    first | (refine take_on (i := 3) (v := ?_) rfl (by kernel_rfl) (by kernel_rfl) (by kernel_rfl) (fun _ _ _ h => h) rfl ?_ (by assumption) ?_; rotate_left; · (intro w' hSw; (try dsimp only at hSw); go_simp; (try with_reducible rfl))) | (refine take_off (i := 3) rfl (by kernel_rfl) (by kernel_rfl) (by kernel_rfl) (fun _ _ _ h => h) rfl (by assumption) ?_)
    (try simp only [Act.put, List.setIfInBounds_toArray, List.set_cons_zero, List.set_cons_succ])
    first | (refine take_on (i := 4) (v := ?_) rfl (by kernel_rfl) (by kernel_rfl) (by kernel_rfl) (fun _ _ _ h => h) rfl ?_ (by assumption) ?_; rotate_left; · (intro w' hSw; (try dsimp only at hSw); go_simp; (try with_reducible rfl))) | (refine take_off (i := 4) rfl (by kernel_rfl) (by kernel_rfl) (by kernel_rfl) (fun _ _ _ h => h) rfl (by assumption) ?_)
    (try simp only [Act.put, List.setIfInBounds_toArray, List.set_cons_zero, List.set_cons_succ])
    first | (refine take_on (i := 5) (v := ?_) rfl (by kernel_rfl) (by kernel_rfl) (by kernel_rfl) (fun _ _ _ h => h) rfl ?_ (by assumption) ?_; rotate_left; · (intro w' hSw; (try dsimp only at hSw); go_simp; (try with_reducible rfl))) | (refine take_off (i := 5) rfl (by kernel_rfl) (by kernel_rfl) (by kernel_rfl) (fun _ _ _ h => h) rfl (by assumption) ?_)
    (try simp only [Act.put, List.setIfInBounds_toArray, List.set_cons_zero, List.set_cons_succ])
    first | (refine take_on (i := 6) (v := ?_) rfl (by kernel_rfl) (by kernel_rfl) (by kernel_rfl) (fun _ _ _ h => h) rfl ?_ (by assumption) ?_; rotate_left; · (intro w' hSw; (try dsimp only at hSw); go_simp; (try with_reducible rfl))) | (refine take_off (i := 6) rfl (by kernel_rfl) (by kernel_rfl) (by kernel_rfl) (fun _ _ _ h => h) rfl (by assumption) ?_)
    (try simp only [Act.put, List.setIfInBounds_toArray, List.set_cons_zero, List.set_cons_succ])
    first | (refine take_on (i := 7) (v := ?_) rfl (by kernel_rfl) (by kernel_rfl) (by kernel_rfl) (fun _ _ _ h => h) rfl ?_ (by assumption) ?_; rotate_left; · (intro w' hSw; (try dsimp only at hSw); go_simp; (try with_reducible rfl))) | (refine take_off (i := 7) rfl (by kernel_rfl) (by kernel_rfl) (by kernel_rfl) (fun _ _ _ h => h) rfl (by assumption) ?_)
    (try simp only [Act.put, List.setIfInBounds_toArray, List.set_cons_zero, List.set_cons_succ])
    first | (refine take_on (i := 8) (v := ?_) rfl (by kernel_rfl) (by kernel_rfl) (by kernel_rfl) (fun _ _ _ h => h) rfl ?_ (by assumption) ?_; rotate_left; · (intro w' hSw; (try dsimp only at hSw); go_simp; (try with_reducible rfl))) | (refine take_off (i := 8) rfl (by kernel_rfl) (by kernel_rfl) (by kernel_rfl) (fun _ _ _ h => h) rfl (by assumption) ?_)
    (try simp only [Act.put, List.setIfInBounds_toArray, List.set_cons_zero, List.set_cons_succ])
    first | (refine take_on (i := 9) (v := ?_) rfl (by kernel_rfl) (by kernel_rfl) (by kernel_rfl) (fun _ _ _ h => h) rfl ?_ (by assumption) ?_; rotate_left; · (intro w' hSw; (try dsimp only at hSw); go_simp; (try with_reducible rfl))) | (refine take_off (i := 9) rfl (by kernel_rfl) (by kernel_rfl) (by kernel_rfl) (fun _ _ _ h => h) rfl (by assumption) ?_)
    (try simp only [Act.put, List.setIfInBounds_toArray, List.set_cons_zero, List.set_cons_succ])
    first | (refine take_on (i := 10) (v := ?_) rfl (by kernel_rfl) (by kernel_rfl) (by kernel_rfl) (fun _ _ _ h => h) rfl ?_ (by assumption) ?_; rotate_left; · (intro w' hSw; (try dsimp only at hSw); go_simp; (try with_reducible rfl))) | (refine take_off (i := 10) rfl (by kernel_rfl) (by kernel_rfl) (by kernel_rfl) (fun _ _ _ h => h) rfl (by assumption) ?_)
    (try simp only [Act.put, List.setIfInBounds_toArray, List.set_cons_zero, List.set_cons_succ])
    first | (refine take_on (i := 11) (v := ?_) rfl (by kernel_rfl) (by kernel_rfl) (by kernel_rfl) (fun _ _ _ h => h) rfl ?_ (by assumption) ?_; rotate_left; · (intro w' hSw; (try dsimp only at hSw); go_simp; (try with_reducible rfl))) | (refine take_off (i := 11) rfl (by kernel_rfl) (by kernel_rfl) (by kernel_rfl) (fun _ _ _ h => h) rfl (by assumption) ?_)
    (try simp only [Act.put, List.setIfInBounds_toArray, List.set_cons_zero, List.set_cons_succ])
    first | (refine take_on (i := 12) (v := ?_) rfl (by kernel_rfl) (by kernel_rfl) (by kernel_rfl) (fun _ _ _ h => h) rfl ?_ (by assumption) ?_; rotate_left; · (intro w' hSw; (try dsimp only at hSw); go_simp; (try with_reducible rfl))) | (refine take_off (i := 12) rfl (by kernel_rfl) (by kernel_rfl) (by kernel_rfl) (fun _ _ _ h => h) rfl (by assumption) ?_)
    (try simp only [Act.put, List.setIfInBounds_toArray, List.set_cons_zero, List.set_cons_succ])
    first | (refine take_on (i := 13) (v := ?_) rfl (by kernel_rfl) (by kernel_rfl) (by kernel_rfl) (fun _ _ _ h => h) rfl ?_ (by assumption) ?_; rotate_left; · (intro w' hSw; (try dsimp only at hSw); go_simp; (try with_reducible rfl))) | (refine take_off (i := 13) rfl (by kernel_rfl) (by kernel_rfl) (by kernel_rfl) (fun _ _ _ h => h) rfl (by assumption) ?_)
    (try simp only [Act.put, List.setIfInBounds_toArray, List.set_cons_zero, List.set_cons_succ])
    first | (refine take_on (i := 14) (v := ?_) rfl (by kernel_rfl) (by kernel_rfl) (by kernel_rfl) (fun _ _ _ h => h) rfl ?_ (by assumption) ?_; rotate_left; · (intro w' hSw; (try dsimp only at hSw); go_simp; (try with_reducible rfl))) | (refine take_off (i := 14) rfl (by kernel_rfl) (by kernel_rfl) (by kernel_rfl) (fun _ _ _ h => h) rfl (by assumption) ?_)
    (try simp only [Act.put, List.setIfInBounds_toArray, List.set_cons_zero, List.set_cons_succ])
    first | (refine take_on (i := 15) (v := ?_) rfl (by kernel_rfl) (by kernel_rfl) (by kernel_rfl) (fun _ _ _ h => h) rfl ?_ (by assumption) ?_; rotate_left; · (intro w' hSw; (try dsimp only at hSw); go_simp; (try with_reducible rfl))) | (refine take_off (i := 15) rfl (by kernel_rfl) (by kernel_rfl) (by kernel_rfl) (fun _ _ _ h => h) rfl (by assumption) ?_)
    (try simp only [Act.put, List.setIfInBounds_toArray, List.set_cons_zero, List.set_cons_succ])
    refine wpAnyH_done (by kernel_rfl) ?_ _
    clear hHeld
    obtain ⟨w5, hw5⟩ : ∃ w5, w5 = w3.drew := ⟨_, rfl⟩
    have hB5 : Below w3.heap.size w3 w5 := by rw [hw5]; exact (Below.refl _ _).drew
    rw [← hw5]
    clear hw5
    have hT5 := Below.next hT3 hB5
    have hz5 := hB5.size
    have ho5 := ho3.next hB5
    obtain ⟨o5, p5⟩ := bk1 ho5
    have hl50 : w.heap.size < w5.heap.size := by omega
    have hl51 : w.heap.size + 1 < w5.heap.size := by omega
    have hl52 : w.heap.size + 1 + 1 < w5.heap.size := by omega
    have hcs5 : w5.cell? ⟨w.heap.size, 0, none⟩ = some (.slice A 0 c) := (hB5.cell (p := ⟨w.heap.size, 0, none⟩) hws3).trans hcs3
    have hcx5 : w5.cell? ⟨w.heap.size + 1, 0, none⟩ = some (.slice B m d) := (hB5.cell (p := ⟨w.heap.size + 1, 0, none⟩) hws4).trans hcx3
    have HA5 := Lib.hid (HA3.out.below hB5)
    have HX5 := Lib.hid (HX3.out.below hB5)
    go_wp2_with fail
    refine (l02Own_any w.heap.size 0 A 0 c S _ hcs5 HA5.out hpos (by omega)).mono ?_
    rintro e w6 ⟨A4, c4, T, rfl, hp6, ho6i, hb6⟩
    have HP6 := Lib.hid hp6
    have HI6 : Hid (InkOwn w6 w5.heap.size w6.heap.size (.slice A4 0 c4) T) := ho6i
    have TL : Hid (T.length = 0) := len_of hp6 LA.out
    have HV6 : Hid (∀ k, (Value.slice A4 0 c4).ownBlock = some k → w5.heap.size ≤ k ∧ k < w6.heap.size) := ho6i.row.lt
    have hT6 := Below.next hT5 hb6
    have hz6 := hb6.size
    have ho6 := ho5.next hb6
    obtain ⟨o6, p6⟩ := bk1 ho6
    have hr6 := ho6.lt
    have hx6 : w.heap.size + 1 < w6.heap.size := by omega
    have hx60 : w.heap.size < w6.heap.size := by omega
    have hcx6 : w6.cell? ⟨w.heap.size + 1, 0, none⟩ = some (.slice B m d) := (hb6.cell (p := ⟨w.heap.size + 1, 0, none⟩) (by omega)).trans hcx5
    have HX6 := Lib.hid ((HX5.out.below hb6).alloc (.cells #[.slice A4 0 c4] 29))
    have hcx6d : (w6.alloc (.cells #[.slice A4 0 c4] 29)).drew.cell? ⟨w.heap.size + 1, 0, none⟩ = some (.slice B m d) := by show (w6.alloc _).cell? _ = _; go_simp
    obtain ⟨ob, hob⟩ : ∃ ob, (Value.slice A4 0 c4).ownBlock = ob := ⟨_, rfl⟩
    have HOB := Lib.hid hob
    have hva : ¬ ob = some (w.heap.size + 1) := fun e => by have := HV6.out _ (hob.trans e); omega
    have hvb : ¬ w.heap.size + 1 = w6.heap.size := by omega
    have hvc : ¬ ob = some w6.heap.size := fun e => by have := HV6.out _ (hob.trans e); omega
    clear hob hp6 ho6i hb6 o5 p5
    go_wp2_with fail
    refine wp_region_held_drew (S := (fun w' => (∀ kb ko, kb < (w6.alloc (.cells #[.slice A4 0 c4] 29)).heap.size → ¬ ob = some kb → ¬ kb = w6.heap.size → w'.cell? ⟨kb, ko, none⟩ = (w6.alloc (.cells #[.slice A4 0 c4] 29)).cell? ⟨kb, ko, none⟩) ∧ (w6.alloc (.cells #[.slice A4 0 c4] 29)).heap.size ≤ w'.heap.size ∧ Below (w5.heap.size) (w6.alloc (.cells #[.slice A4 0 c4] 29)) w')) (by kernel_rfl) ?_ (fun hHeld => ?_)
    · (try dsimp only); exact S2.mk6 ((Below.refl _ _).drew) (by simp only [World.size_alloc]; omega)
    first | (refine take_on (i := 0) (v := ?_) rfl (by kernel_rfl) (by kernel_rfl) (by kernel_rfl) (fun _ _ _ h => h) rfl ?_ (by assumption) ?_; rotate_left; · (intro w' hSw; (try dsimp only at hSw); go_simp; (try with_reducible rfl))) | (refine take_off (i := 0) rfl (by kernel_rfl) (by kernel_rfl) (by kernel_rfl) (fun _ _ _ h => h) rfl (by assumption) ?_)
    (try simp only [Act.put, List.setIfInBounds_toArray, List.set_cons_zero, List.set_cons_succ])
    refine wpAnyH_ready (rs := [1, 2]) (by kernel_rfl) (by simp) ?_
    refine AllReadyH.cons rfl (fun K hK => ?_) (AllReadyH.cons rfl (fun K hK => ?_) (AllReadyH.nil))
    · rw [if_pos (by rfl)]
      go_simp
      refine hK.out _ _ ?_ (fun hHeld2 => ?_)
      · (try dsimp only); exact hHeld
      clear hK K hHeld; have hHeld := hHeld2; clear hHeld2; (try simp only [Act.put, List.setIfInBounds_toArray, List.set_cons_zero, List.set_cons_succ])
      refine wpAnyH_ready (rs := [2]) (by kernel_rfl) (by simp) ?_
      refine AllReadyH.cons rfl (fun K hK => ?_) AllReadyH.nil
      rw [if_pos (by rfl)]
      go_simp
      go_at_call 66
      (with_reducible refine (l02OwnStroke_any (w.heap.size + 1) 0 B m d xs _ (by first | exact hcx6d | exact hcx6) (by first | exact HX6.out | exact HX6.out.alloc _ | exact HX6.out.drew) LX.out hx0 hm).mono ?_)
      rintro e w7 ⟨A7, c7, rfl, ho7, hb7⟩
      have hB7 : Below (w6.alloc (.cells #[.slice A4 0 c4] 29)).heap.size (w6.alloc (.cells #[.slice A4 0 c4] 29)) w7 := Below.next (by go_grown) hb7
      have hz7 := hB7.size
      have hz7' := hz7
      simp only [World.size_alloc] at hz7'
      have HO7 : Hid (Own ptC 72 3 w7 (w6.heap.size + 1) (.slice A7 m c7) xs) := by (try simp only [World.size_alloc, World.size_drew] at ho7); exact ho7
      have HI7 := Lib.hid ((HI6.out.alloc (.cells #[.slice A4 0 c4] 29)).next hB7)
      have hbk7 : Bk w7 w6.heap.size 29 #[.slice A4 0 c4] := (Bk.new w6 _ _).next hB7
      obtain ⟨e7, f7⟩ := bk1 hbk7
      have hgl7 := hbk7.lt
      clear ho7
      refine hK.out _ _ ?_ (fun hHeld2 => ?_)
      · (try dsimp only); exact S2.mk6 hB7 (by simp only [World.size_alloc]; omega)
      clear hK K hHeld; have hHeld := hHeld2; clear hHeld2; (try simp only [Act.put, List.setIfInBounds_toArray, List.set_cons_zero, List.set_cons_succ])
      refine wpAnyH_ready (rs := [3]) (by kernel_rfl) (by simp) ?_
      refine AllReadyH.cons rfl (fun K hK => ?_) AllReadyH.nil
      rw [if_pos (by rfl)]
      go_simp
      refine hK.out _ _ ?_ (fun hHeld2 => ?_)
      · (try dsimp only); exact S2.mk6 (hB7.alloc hz7 _) (by simp only [World.size_alloc]; omega)
      clear hK K hHeld; have hHeld := hHeld2; clear hHeld2; (try simp only [Act.put, List.setIfInBounds_toArray, List.set_cons_zero, List.set_cons_succ])
      refine wpAnyH_ready (rs := [4]) (by kernel_rfl) (by simp) ?_
      refine AllReadyH.cons rfl (fun K hK => ?_) AllReadyH.nil
      refine step_push elem_sk (by rfl) (.tmp 40) (.tmp 42) 27 (by rfl) Try.underlying27 w5.heap.size (.slice A4 0 c4) T ⟨A7, c7, xs⟩ (by rfl) (HI7.out.row.alloc _) 0 TL.out w7.heap.size 1 (by rfl) (fun i u hu => ((Bk.new w7 #[.slice A7 m c7] 52).cell i).trans (by have h1 := LX.out; simpa [skC, St.val, h1] using hu)) (by unfold maxLen; omega) (by omega) (by simp only [World.size_alloc]; omega) ?_
      intro g8 cap8 w8 hown8 hgrow8 hat8 hlt8 hkeep8
      have hbk8 : Bk w8 w6.heap.size 29 #[.slice A4 0 c4] := (hgrow8.block _ (by simp only [World.size_alloc]; omega) (fun e => by have h2 := HV6.out _ e.symm; omega)).trans (hbk7.alloc _)
      obtain ⟨e8, f8⟩ := bk1 hbk8
      have hz8 := hgrow8.size
      simp only [World.size_alloc] at hz8
      have hgl8 := hbk8.lt
      refine hK.out _ _ ?_ (fun hHeld2 => ?_)
      · (try dsimp only); exact S2.push6 hHeld (by have h9 := hgrow8; rw [HOB.out] at h9; exact h9) (fun k hk => by have h2 := HV6.out k (HOB.out.trans hk); omega) (by simp only [World.size_alloc]; omega)
      clear hK K hHeld; have hHeld := hHeld2; clear hHeld2; (try simp only [Act.put, List.setIfInBounds_toArray, List.set_cons_zero, List.set_cons_succ])
      first | (refine take_on (i := 5) (v := ?_) rfl (by kernel_rfl) (by kernel_rfl) (by kernel_rfl) (fun _ _ _ h => h) rfl ?_ (by assumption) ?_; rotate_left; · (intro w' hSw; (try dsimp only at hSw); go_simp; (try with_reducible rfl))) | (refine take_off (i := 5) rfl (by kernel_rfl) (by kernel_rfl) (by kernel_rfl) (fun _ _ _ h => h) rfl (by assumption) ?_)
      (try simp only [Act.put, List.setIfInBounds_toArray, List.set_cons_zero, List.set_cons_succ])
      refine wpAnyH_ready (rs := [6]) (by kernel_rfl) (by simp) ?_
      refine AllReadyH.cons rfl (fun K hK => ?_) AllReadyH.nil
      rw [if_pos (by rfl)]
      go_simp
      refine hK.out _ _ ?_ (fun hHeld2 => ?_)
      · (try dsimp only); exact S2.store6 hHeld (by omega) _
      clear hK K hHeld; have hHeld := hHeld2; clear hHeld2; (try simp only [Act.put, List.setIfInBounds_toArray, List.set_cons_zero, List.set_cons_succ])
      refine wpAnyH_done (by kernel_rfl) ?_ _
      have hink := InkOwn.push HI7.out (t := ⟨A7, c7, xs⟩) (by have h1 := HO7.out.mono (show w5.heap.size ≤ w6.heap.size + 1 by omega); simpa [St.val, LX.out] using h1) (fun b hb => by have h1 := (HO7.out.lt b (by simpa [St.val, LX.out] using hb)).1; omega) (by omega) ((Below.refl _ _).alloc (Nat.le_refl _) _) hgrow8 hat8 hlt8 hown8
      have hink9 := hink.store ⟨w6.heap.size, 0, none⟩ (.slice (some ⟨g8, 0, none⟩) (0 + 1) cap8) (fun e => by
        have e1 : g8 = w6.heap.size := by simpa [Value.ownBlock] using e
        rcases hat8 with h2 | h2
        · have := HV6.out _ h2; omega
        · (try simp only [World.size_alloc] at h2); omega) (fun s hs2 e => by
        rcases List.mem_append.1 hs2 with h3 | h3
        · have h4 := HI7.out.inner.top s h3 _ e
          (try simp only at h4); omega
        · rw [List.mem_singleton.1 h3] at e
          have h4 := (HO7.out.lt _ (by simpa [St.val, LX.out] using e)).1
          (try simp only at h4); omega)
      have HI9 : Hid (InkOwn (w8.setCell ⟨w6.heap.size, 0, none⟩ (.slice (some ⟨g8, 0, none⟩) (0 + 1) cap8)) w5.heap.size w8.heap.size (.slice (some ⟨g8, 0, none⟩) (0 + 1) cap8) (T ++ [⟨A7, c7, xs⟩])) := hink9
      have HP9 : Hid (ptsOf (T ++ [⟨A7, c7, xs⟩]) = ptsOf S ++ [xs]) := by rw [Hid, ptsOf_snoc, HP6.out]
      have TL9 : Hid ((T ++ [(⟨A7, c7, xs⟩ : St)]).length = 0 + 1) := by rw [Hid, List.length_append, TL.out]; rfl
      have hvar := bk1_put (a' := .slice (some ⟨g8, 0, none⟩) (0 + 1) cap8) hbk8
      obtain ⟨w9, hw9⟩ : ∃ w9, w9 = w8.setCell ⟨w6.heap.size, 0, none⟩ (.slice (some ⟨g8, 0, none⟩) (0 + 1) cap8) := ⟨_, rfl⟩
      have hsz9 : w9.heap.size = w8.heap.size := by rw [hw9]; simp [World.setCell]
      rw [← hw9] at hvar HI9 hHeld
      rw [← hw9]
      rw [← hsz9] at HI9
      have hS := hHeld.2.2
      have hT9 : Below w.heap.size w w9 := (hT6.alloc hT6.size (.cells #[.slice A4 0 c4] 29)).trans (hS.mono (by omega))
      have hlow9 : w5.heap.size ≤ w9.heap.size := by rw [hsz9]; omega
      have hl9 : w6.heap.size < w9.heap.size := by rw [hsz9]; omega
      have HSZ := Lib.hid hsz9
      obtain ⟨e9, f9⟩ := bk1 hvar
      have ho9 : Bk w9 (w.heap.size + 1 + 1) 29 #[.slice none 0 0] := (ho6.alloc (.cells #[.slice A4 0 c4] 29)).below hS (by omega)
      obtain ⟨o9, p9⟩ := bk1 ho9
      have hr9 := ho9.lt
      clear hHeld hS hink hink9 e8 f8 e7 f7 hown8 hgrow8 hat8 hkeep8 hbk7 hbk8 hw9 hsz9
      go_wp2_with fail
      refine bodyPost_ret (by simp [results, Try.results30, go_sem, *]; try rfl) rfl ?_
      refine ⟨some ⟨g8, 0, none⟩, cap8, T ++ [⟨A7, c7, xs⟩], rfl, by rw [HP9.out, HE.out], ?_, by go_grown⟩
      have hsz : (w9.setCell ⟨w.heap.size + 1 + 1, 0, none⟩ (.slice (some ⟨g8, 0, none⟩) (0 + 1) cap8)).heap.size = w9.heap.size := by simp [World.setCell]
      rw [hsz]
      exact (HI9.out.keep fun k0 hk0 _ _ => Below.heap_setCell w9 ⟨w.heap.size + 1 + 1, 0, none⟩ (.slice (some ⟨g8, 0, none⟩) (0 + 1) cap8) _ (by simp only [ne_eq]; omega)).low (show w.heap.size ≤ w5.heap.size by omega)
    · rw [if_pos (by rfl)]
      go_simp
      go_at_call 66
      (with_reducible refine (l02OwnStroke_any (w.heap.size + 1) 0 B m d xs _ (by first | exact hcx6d | exact hcx6) (by first | exact HX6.out | exact HX6.out.alloc _ | exact HX6.out.drew) LX.out hx0 hm).mono ?_)
      rintro e w7 ⟨A7, c7, rfl, ho7, hb7⟩
      have hB7 : Below (w6.alloc (.cells #[.slice A4 0 c4] 29)).heap.size (w6.alloc (.cells #[.slice A4 0 c4] 29)) w7 := Below.next (by go_grown) hb7
      have hz7 := hB7.size
      have hz7' := hz7
      simp only [World.size_alloc] at hz7'
      have HO7 : Hid (Own ptC 72 3 w7 (w6.heap.size + 1) (.slice A7 m c7) xs) := by (try simp only [World.size_alloc, World.size_drew] at ho7); exact ho7
      have HI7 := Lib.hid ((HI6.out.alloc (.cells #[.slice A4 0 c4] 29)).next hB7)
      have hbk7 : Bk w7 w6.heap.size 29 #[.slice A4 0 c4] := (Bk.new w6 _ _).next hB7
      obtain ⟨e7, f7⟩ := bk1 hbk7
      have hgl7 := hbk7.lt
      clear ho7
      refine hK.out _ _ ?_ (fun hHeld2 => ?_)
      · (try dsimp only); exact S2.mk6 hB7 (by simp only [World.size_alloc]; omega)
      clear hK K hHeld; have hHeld := hHeld2; clear hHeld2; (try simp only [Act.put, List.setIfInBounds_toArray, List.set_cons_zero, List.set_cons_succ])
      refine wpAnyH_ready (rs := [1, 3]) (by kernel_rfl) (by simp) ?_
      refine AllReadyH.cons rfl (fun K hK => ?_) (AllReadyH.cons rfl (fun K hK => ?_) (AllReadyH.nil))
      · rw [if_pos (by rfl)]
        go_simp
        refine hK.out _ _ ?_ (fun hHeld2 => ?_)
        · (try dsimp only); exact hHeld
        clear hK K hHeld; have hHeld := hHeld2; clear hHeld2; (try simp only [Act.put, List.setIfInBounds_toArray, List.set_cons_zero, List.set_cons_succ])
        refine wpAnyH_ready (rs := [3]) (by kernel_rfl) (by simp) ?_
        refine AllReadyH.cons rfl (fun K hK => ?_) AllReadyH.nil
        rw [if_pos (by rfl)]
        go_simp
        refine hK.out _ _ ?_ (fun hHeld2 => ?_)
        · (try dsimp only); exact S2.mk6 (hB7.alloc hz7 _) (by simp only [World.size_alloc]; omega)
        clear hK K hHeld; have hHeld := hHeld2; clear hHeld2; (try simp only [Act.put, List.setIfInBounds_toArray, List.set_cons_zero, List.set_cons_succ])
        refine wpAnyH_ready (rs := [4]) (by kernel_rfl) (by simp) ?_
        refine AllReadyH.cons rfl (fun K hK => ?_) AllReadyH.nil
        refine step_push elem_sk (by rfl) (.tmp 40) (.tmp 42) 27 (by rfl) Try.underlying27 w5.heap.size (.slice A4 0 c4) T ⟨A7, c7, xs⟩ (by rfl) (HI7.out.row.alloc _) 0 TL.out w7.heap.size 1 (by rfl) (fun i u hu => ((Bk.new w7 #[.slice A7 m c7] 52).cell i).trans (by have h1 := LX.out; simpa [skC, St.val, h1] using hu)) (by unfold maxLen; omega) (by omega) (by simp only [World.size_alloc]; omega) ?_
        intro g8 cap8 w8 hown8 hgrow8 hat8 hlt8 hkeep8
        have hbk8 : Bk w8 w6.heap.size 29 #[.slice A4 0 c4] := (hgrow8.block _ (by simp only [World.size_alloc]; omega) (fun e => by have h2 := HV6.out _ e.symm; omega)).trans (hbk7.alloc _)
        obtain ⟨e8, f8⟩ := bk1 hbk8
        have hz8 := hgrow8.size
        simp only [World.size_alloc] at hz8
        have hgl8 := hbk8.lt
        refine hK.out _ _ ?_ (fun hHeld2 => ?_)
        · (try dsimp only); exact S2.push6 hHeld (by have h9 := hgrow8; rw [HOB.out] at h9; exact h9) (fun k hk => by have h2 := HV6.out k (HOB.out.trans hk); omega) (by simp only [World.size_alloc]; omega)
        clear hK K hHeld; have hHeld := hHeld2; clear hHeld2; (try simp only [Act.put, List.setIfInBounds_toArray, List.set_cons_zero, List.set_cons_succ])
        first | (refine take_on (i := 5) (v := ?_) rfl (by kernel_rfl) (by kernel_rfl) (by kernel_rfl) (fun _ _ _ h => h) rfl ?_ (by assumption) ?_; rotate_left; · (intro w' hSw; (try dsimp only at hSw); go_simp; (try with_reducible rfl))) | (refine take_off (i := 5) rfl (by kernel_rfl) (by kernel_rfl) (by kernel_rfl) (fun _ _ _ h => h) rfl (by assumption) ?_)
        (try simp only [Act.put, List.setIfInBounds_toArray, List.set_cons_zero, List.set_cons_succ])
        refine wpAnyH_ready (rs := [6]) (by kernel_rfl) (by simp) ?_
        refine AllReadyH.cons rfl (fun K hK => ?_) AllReadyH.nil
        rw [if_pos (by rfl)]
        go_simp
        refine hK.out _ _ ?_ (fun hHeld2 => ?_)
        · (try dsimp only); exact S2.store6 hHeld (by omega) _
        clear hK K hHeld; have hHeld := hHeld2; clear hHeld2; (try simp only [Act.put, List.setIfInBounds_toArray, List.set_cons_zero, List.set_cons_succ])
        refine wpAnyH_done (by kernel_rfl) ?_ _
        have hink := InkOwn.push HI7.out (t := ⟨A7, c7, xs⟩) (by have h1 := HO7.out.mono (show w5.heap.size ≤ w6.heap.size + 1 by omega); simpa [St.val, LX.out] using h1) (fun b hb => by have h1 := (HO7.out.lt b (by simpa [St.val, LX.out] using hb)).1; omega) (by omega) ((Below.refl _ _).alloc (Nat.le_refl _) _) hgrow8 hat8 hlt8 hown8
        have hink9 := hink.store ⟨w6.heap.size, 0, none⟩ (.slice (some ⟨g8, 0, none⟩) (0 + 1) cap8) (fun e => by
          have e1 : g8 = w6.heap.size := by simpa [Value.ownBlock] using e
          rcases hat8 with h2 | h2
          · have := HV6.out _ h2; omega
          · (try simp only [World.size_alloc] at h2); omega) (fun s hs2 e => by
          rcases List.mem_append.1 hs2 with h3 | h3
          · have h4 := HI7.out.inner.top s h3 _ e
            (try simp only at h4); omega
          · rw [List.mem_singleton.1 h3] at e
            have h4 := (HO7.out.lt _ (by simpa [St.val, LX.out] using e)).1
            (try simp only at h4); omega)
        have HI9 : Hid (InkOwn (w8.setCell ⟨w6.heap.size, 0, none⟩ (.slice (some ⟨g8, 0, none⟩) (0 + 1) cap8)) w5.heap.size w8.heap.size (.slice (some ⟨g8, 0, none⟩) (0 + 1) cap8) (T ++ [⟨A7, c7, xs⟩])) := hink9
        have HP9 : Hid (ptsOf (T ++ [⟨A7, c7, xs⟩]) = ptsOf S ++ [xs]) := by rw [Hid, ptsOf_snoc, HP6.out]
        have TL9 : Hid ((T ++ [(⟨A7, c7, xs⟩ : St)]).length = 0 + 1) := by rw [Hid, List.length_append, TL.out]; rfl
        have hvar := bk1_put (a' := .slice (some ⟨g8, 0, none⟩) (0 + 1) cap8) hbk8
        obtain ⟨w9, hw9⟩ : ∃ w9, w9 = w8.setCell ⟨w6.heap.size, 0, none⟩ (.slice (some ⟨g8, 0, none⟩) (0 + 1) cap8) := ⟨_, rfl⟩
        have hsz9 : w9.heap.size = w8.heap.size := by rw [hw9]; simp [World.setCell]
        rw [← hw9] at hvar HI9 hHeld
        rw [← hw9]
        rw [← hsz9] at HI9
        have hS := hHeld.2.2
        have hT9 : Below w.heap.size w w9 := (hT6.alloc hT6.size (.cells #[.slice A4 0 c4] 29)).trans (hS.mono (by omega))
        have hlow9 : w5.heap.size ≤ w9.heap.size := by rw [hsz9]; omega
        have hl9 : w6.heap.size < w9.heap.size := by rw [hsz9]; omega
        have HSZ := Lib.hid hsz9
        obtain ⟨e9, f9⟩ := bk1 hvar
        have ho9 : Bk w9 (w.heap.size + 1 + 1) 29 #[.slice none 0 0] := (ho6.alloc (.cells #[.slice A4 0 c4] 29)).below hS (by omega)
        obtain ⟨o9, p9⟩ := bk1 ho9
        have hr9 := ho9.lt
        clear hHeld hS hink hink9 e8 f8 e7 f7 hown8 hgrow8 hat8 hkeep8 hbk7 hbk8 hw9 hsz9
        go_wp2_with fail
        refine bodyPost_ret (by simp [results, Try.results30, go_sem, *]; try rfl) rfl ?_
        refine ⟨some ⟨g8, 0, none⟩, cap8, T ++ [⟨A7, c7, xs⟩], rfl, by rw [HP9.out, HE.out], ?_, by go_grown⟩
        have hsz : (w9.setCell ⟨w.heap.size + 1 + 1, 0, none⟩ (.slice (some ⟨g8, 0, none⟩) (0 + 1) cap8)).heap.size = w9.heap.size := by simp [World.setCell]
        rw [hsz]
        exact (HI9.out.keep fun k0 hk0 _ _ => Below.heap_setCell w9 ⟨w.heap.size + 1 + 1, 0, none⟩ (.slice (some ⟨g8, 0, none⟩) (0 + 1) cap8) _ (by simp only [ne_eq]; omega)).low (show w.heap.size ≤ w5.heap.size by omega)
      · rw [if_pos (by rfl)]
        go_simp
        refine hK.out _ _ ?_ (fun hHeld2 => ?_)
        · (try dsimp only); exact S2.mk6 (hB7.alloc hz7 _) (by simp only [World.size_alloc]; omega)
        clear hK K hHeld; have hHeld := hHeld2; clear hHeld2; (try simp only [Act.put, List.setIfInBounds_toArray, List.set_cons_zero, List.set_cons_succ])
        refine wpAnyH_ready (rs := [1]) (by kernel_rfl) (by simp) ?_
        refine AllReadyH.cons rfl (fun K hK => ?_) AllReadyH.nil
        rw [if_pos (by rfl)]
        go_simp
        refine hK.out _ _ ?_ (fun hHeld2 => ?_)
        · (try dsimp only); exact hHeld
        clear hK K hHeld; have hHeld := hHeld2; clear hHeld2; (try simp only [Act.put, List.setIfInBounds_toArray, List.set_cons_zero, List.set_cons_succ])
        refine wpAnyH_ready (rs := [4]) (by kernel_rfl) (by simp) ?_
        refine AllReadyH.cons rfl (fun K hK => ?_) AllReadyH.nil
        refine step_push elem_sk (by rfl) (.tmp 40) (.tmp 42) 27 (by rfl) Try.underlying27 w5.heap.size (.slice A4 0 c4) T ⟨A7, c7, xs⟩ (by rfl) (HI7.out.row.alloc _) 0 TL.out w7.heap.size 1 (by rfl) (fun i u hu => ((Bk.new w7 #[.slice A7 m c7] 52).cell i).trans (by have h1 := LX.out; simpa [skC, St.val, h1] using hu)) (by unfold maxLen; omega) (by omega) (by simp only [World.size_alloc]; omega) ?_
        intro g8 cap8 w8 hown8 hgrow8 hat8 hlt8 hkeep8
        have hbk8 : Bk w8 w6.heap.size 29 #[.slice A4 0 c4] := (hgrow8.block _ (by simp only [World.size_alloc]; omega) (fun e => by have h2 := HV6.out _ e.symm; omega)).trans (hbk7.alloc _)
        obtain ⟨e8, f8⟩ := bk1 hbk8
        have hz8 := hgrow8.size
        simp only [World.size_alloc] at hz8
        have hgl8 := hbk8.lt
        refine hK.out _ _ ?_ (fun hHeld2 => ?_)
        · (try dsimp only); exact S2.push6 hHeld (by have h9 := hgrow8; rw [HOB.out] at h9; exact h9) (fun k hk => by have h2 := HV6.out k (HOB.out.trans hk); omega) (by simp only [World.size_alloc]; omega)
        clear hK K hHeld; have hHeld := hHeld2; clear hHeld2; (try simp only [Act.put, List.setIfInBounds_toArray, List.set_cons_zero, List.set_cons_succ])
        first | (refine take_on (i := 5) (v := ?_) rfl (by kernel_rfl) (by kernel_rfl) (by kernel_rfl) (fun _ _ _ h => h) rfl ?_ (by assumption) ?_; rotate_left; · (intro w' hSw; (try dsimp only at hSw); go_simp; (try with_reducible rfl))) | (refine take_off (i := 5) rfl (by kernel_rfl) (by kernel_rfl) (by kernel_rfl) (fun _ _ _ h => h) rfl (by assumption) ?_)
        (try simp only [Act.put, List.setIfInBounds_toArray, List.set_cons_zero, List.set_cons_succ])
        refine wpAnyH_ready (rs := [6]) (by kernel_rfl) (by simp) ?_
        refine AllReadyH.cons rfl (fun K hK => ?_) AllReadyH.nil
        rw [if_pos (by rfl)]
        go_simp
        refine hK.out _ _ ?_ (fun hHeld2 => ?_)
        · (try dsimp only); exact S2.store6 hHeld (by omega) _
        clear hK K hHeld; have hHeld := hHeld2; clear hHeld2; (try simp only [Act.put, List.setIfInBounds_toArray, List.set_cons_zero, List.set_cons_succ])
        refine wpAnyH_done (by kernel_rfl) ?_ _
        have hink := InkOwn.push HI7.out (t := ⟨A7, c7, xs⟩) (by have h1 := HO7.out.mono (show w5.heap.size ≤ w6.heap.size + 1 by omega); simpa [St.val, LX.out] using h1) (fun b hb => by have h1 := (HO7.out.lt b (by simpa [St.val, LX.out] using hb)).1; omega) (by omega) ((Below.refl _ _).alloc (Nat.le_refl _) _) hgrow8 hat8 hlt8 hown8
        have hink9 := hink.store ⟨w6.heap.size, 0, none⟩ (.slice (some ⟨g8, 0, none⟩) (0 + 1) cap8) (fun e => by
          have e1 : g8 = w6.heap.size := by simpa [Value.ownBlock] using e
          rcases hat8 with h2 | h2
          · have := HV6.out _ h2; omega
          · (try simp only [World.size_alloc] at h2); omega) (fun s hs2 e => by
          rcases List.mem_append.1 hs2 with h3 | h3
          · have h4 := HI7.out.inner.top s h3 _ e
            (try simp only at h4); omega
          · rw [List.mem_singleton.1 h3] at e
            have h4 := (HO7.out.lt _ (by simpa [St.val, LX.out] using e)).1
            (try simp only at h4); omega)
        have HI9 : Hid (InkOwn (w8.setCell ⟨w6.heap.size, 0, none⟩ (.slice (some ⟨g8, 0, none⟩) (0 + 1) cap8)) w5.heap.size w8.heap.size (.slice (some ⟨g8, 0, none⟩) (0 + 1) cap8) (T ++ [⟨A7, c7, xs⟩])) := hink9
        have HP9 : Hid (ptsOf (T ++ [⟨A7, c7, xs⟩]) = ptsOf S ++ [xs]) := by rw [Hid, ptsOf_snoc, HP6.out]
        have TL9 : Hid ((T ++ [(⟨A7, c7, xs⟩ : St)]).length = 0 + 1) := by rw [Hid, List.length_append, TL.out]; rfl
        have hvar := bk1_put (a' := .slice (some ⟨g8, 0, none⟩) (0 + 1) cap8) hbk8
        obtain ⟨w9, hw9⟩ : ∃ w9, w9 = w8.setCell ⟨w6.heap.size, 0, none⟩ (.slice (some ⟨g8, 0, none⟩) (0 + 1) cap8) := ⟨_, rfl⟩
        have hsz9 : w9.heap.size = w8.heap.size := by rw [hw9]; simp [World.setCell]
        rw [← hw9] at hvar HI9 hHeld
        rw [← hw9]
        rw [← hsz9] at HI9
        have hS := hHeld.2.2
        have hT9 : Below w.heap.size w w9 := (hT6.alloc hT6.size (.cells #[.slice A4 0 c4] 29)).trans (hS.mono (by omega))
        have hlow9 : w5.heap.size ≤ w9.heap.size := by rw [hsz9]; omega
        have hl9 : w6.heap.size < w9.heap.size := by rw [hsz9]; omega
        have HSZ := Lib.hid hsz9
        obtain ⟨e9, f9⟩ := bk1 hvar
        have ho9 : Bk w9 (w.heap.size + 1 + 1) 29 #[.slice none 0 0] := (ho6.alloc (.cells #[.slice A4 0 c4] 29)).below hS (by omega)
        obtain ⟨o9, p9⟩ := bk1 ho9
        have hr9 := ho9.lt
        clear hHeld hS hink hink9 e8 f8 e7 f7 hown8 hgrow8 hat8 hkeep8 hbk7 hbk8 hw9 hsz9
        go_wp2_with fail
        refine bodyPost_ret (by simp [results, Try.results30, go_sem, *]; try rfl) rfl ?_
        refine ⟨some ⟨g8, 0, none⟩, cap8, T ++ [⟨A7, c7, xs⟩], rfl, by rw [HP9.out, HE.out], ?_, by go_grown⟩
        have hsz : (w9.setCell ⟨w.heap.size + 1 + 1, 0, none⟩ (.slice (some ⟨g8, 0, none⟩) (0 + 1) cap8)).heap.size = w9.heap.size := by simp [World.setCell]
        rw [hsz]
        exact (HI9.out.keep fun k0 hk0 _ _ => Below.heap_setCell w9 ⟨w.heap.size + 1 + 1, 0, none⟩ (.slice (some ⟨g8, 0, none⟩) (0 + 1) cap8) _ (by simp only [ne_eq]; omega)).low (show w.heap.size ≤ w5.heap.size by omega)
  · have kj : j < S.length := by have := LA.out; omega
    obtain ⟨q, hq, hq59⟩ := strB_pos ((inkB_true H1.out).2 j kj)
    have hqx : q < S[j].l.length := by omega
    have hnx : nextB (ptsOf S) xs = decide (S[j].l[q].t < xs[0].t) := by rw [nextB_at LA.out kj, lT_eq hq hqx, fT_eq hx1]
    have HNX := Lib.hid hnx
    have HQ := Lib.hid hq
    clear hnx hq
    cases e4 : decide (xs[0].t ≤ S[j].l[q].t)
    · have h4 : nextB (ptsOf S) xs = true := by rw [HNX.out]; have := of_decide_eq_false e4; exact decide_eq_true (by omega)
      have e4' : ¬ xs[0].t ≤ S[j].l[q].t := of_decide_eq_false e4
      rw [addR_ok H1.out H2.out HF.out h4] at hR
      injection hR with e1 e2
      subst e2
      have HE : Hid (L = ptsOf S ++ [xs]) := e1.symm
      obtain rfl : N = j + 1 + 1 := by rw [← hN, ← e1, List.length_append, PL.out]; rfl
      clear h4 hN e1
      go_enter Try.func30, Try.ntmps30
      go_wp2_with fail
      refine HV.mono ?_
      rintro e w2 ⟨rfl, hb⟩
      clear HV
      obtain ⟨hws, hws1, hws2, hcs, hcx, ho, hT⟩ := start.out w2 hb
      have HA2 := Lib.hid (HA0.out.below hb)
      have HX2 := Lib.hid (HX0.out.below hb)
      obtain ⟨o0, p0⟩ := bk1 ho
      clear hb
      go_wp2_with fail
      refine (l02Stroke_of H2 _ hcx HX2.out LX.out hm).mono ?_
      rintro e w3 ⟨rfl, hb3⟩
      have hT3 := Below.next hT hb3
      have hws3 : w.heap.size < w3.heap.size := Nat.lt_of_lt_of_le hws hb3.size
      have hws4 : w.heap.size + 1 < w3.heap.size := Nat.lt_of_lt_of_le hws1 hb3.size
      have hws5 : w.heap.size + 1 + 1 < w3.heap.size := Nat.lt_of_lt_of_le hws2 hb3.size
      have hcs3 : w3.cell? ⟨w.heap.size, 0, none⟩ = some (.slice A (j + 1) c) := (hb3.cell (p := ⟨w.heap.size, 0, none⟩) hws).trans hcs
      have hcx3 : w3.cell? ⟨w.heap.size + 1, 0, none⟩ = some (.slice B m d) := (hb3.cell (p := ⟨w.heap.size + 1, 0, none⟩) hws1).trans hcx
      have ho3 := ho.next hb3
      have HA3 := Lib.hid (HA2.out.below hb3)
      have HX3 := Lib.hid (HX2.out.below hb3)
      obtain ⟨o3, p3⟩ := bk1 ho3
      clear hb3 o0 p0 hcs hcx ho HA2 HX2
      obtain ⟨b1, o1, eA, l1, c4, p4⟩ := HA3.out.at kj
      rw [HQ.out] at c4 p4
      have P4 := Lib.hid p4
      clear p4
      obtain ⟨bx, ox, eB, lx, x1, x2, x3⟩ := HX3.out.pt LX.out hx1
      simp only [Nat.zero_mul, Nat.add_zero] at x1 x2 x3
      have c4d : w3.drew.cell? ⟨b1, o1 + j, none⟩ = some (.slice S[j].A (q + 1) S[j].c) := c4
      have hwj : IntKind.i64.wrap (j : Int) = (j : Int) := IntWalk.i64_in _ (by omega)
      have hj0 : (0 : Int) ≤ (j : Int) := by omega
      have hj1 : (j : Int) < (j : Int) + 1 := by omega
      have hj2 : (0 : Int) < (j : Int) + 1 := by omega
      have hm0 : (0 : Int) < (m : Int) := by omega
      subst eA; subst eB
      go_wp2_with fail
      refine wp_region_held_drew (S := (fun w' => (∀ kb ko, kb < w3.heap.size → w'.cell? ⟨kb, ko, none⟩ = w3.cell? ⟨kb, ko, none⟩) ∧ w3.heap.size ≤ w'.heap.size ∧ Below w3.heap.size w3 w')) (by kernel_rfl) ?_ (fun hHeld => ?_)
      · (try dsimp only); (first | exact SB.mk hkB | exact SB.mk ((Below.refl _ _).drew) | (go_split_ands; refine SB.mk (Below.drew ?_); assumption) | (refine SB.mk ?_; go_grown; done) | (go_split_ands; refine SB.mk ?_; go_grown; done))
      first | (refine take_on (i := 0) (v := ?_) rfl (by kernel_rfl) (by kernel_rfl) (by kernel_rfl) (fun _ _ _ h => h) rfl ?_ (by assumption) ?_; rotate_left; · (intro w' hSw; (try dsimp only at hSw); go_simp; (try with_reducible rfl))) | (refine take_off (i := 0) rfl (by kernel_rfl) (by kernel_rfl) (by kernel_rfl) (fun _ _ _ h => h) rfl (by assumption) ?_)
      (try simp only [Act.put, List.setIfInBounds_toArray, List.set_cons_zero, List.set_cons_succ])
      first | (refine take_on (i := 1) (v := ?_) rfl (by kernel_rfl) (by kernel_rfl) (by kernel_rfl) (fun _ _ _ h => h) rfl ?_ (by assumption) ?_; rotate_left; · (intro w' hSw; (try dsimp only at hSw); go_simp; (try with_reducible rfl))) | (refine take_off (i := 1) rfl (by kernel_rfl) (by kernel_rfl) (by kernel_rfl) (fun _ _ _ h => h) rfl (by assumption) ?_)
      (try simp only [Act.put, List.setIfInBounds_toArray, List.set_cons_zero, List.set_cons_succ])
      first | (refine take_on (i := 2) (v := ?_) rfl (by kernel_rfl) (by kernel_rfl) (by kernel_rfl) (fun _ _ _ h => h) rfl ?_ (by assumption) ?_; rotate_left; · (intro w' hSw; (try dsimp only at hSw); go_simp; (try with_reducible rfl))) | (refine take_off (i := 2) rfl (by kernel_rfl) (by kernel_rfl) (by kernel_rfl) (fun _ _ _ h => h) rfl (by assumption) ?_)
      (try simp only [Act.put, List.setIfInBounds_toArray, List.set_cons_zero, List.set_cons_succ])
      first | (refine take_on (i := 3) (v := ?_) rfl (by kernel_rfl) (by kernel_rfl) (by kernel_rfl) (fun _ _ _ h => h) rfl ?_ (by assumption) ?_; rotate_left; · (intro w' hSw; (try dsimp only at hSw); go_simp; (try with_reducible rfl))) | (refine take_off (i := 3) rfl (by kernel_rfl) (by kernel_rfl) (by kernel_rfl) (fun _ _ _ h => h) rfl (by assumption) ?_)
      (try simp only [Act.put, List.setIfInBounds_toArray, List.set_cons_zero, List.set_cons_succ])
      first | (refine take_on (i := 4) (v := ?_) rfl (by kernel_rfl) (by kernel_rfl) (by kernel_rfl) (fun _ _ _ h => h) rfl ?_ (by assumption) ?_; rotate_left; · (intro w' hSw; (try dsimp only at hSw); go_simp; (try with_reducible rfl))) | (refine take_off (i := 4) rfl (by kernel_rfl) (by kernel_rfl) (by kernel_rfl) (fun _ _ _ h => h) rfl (by assumption) ?_)
      (try simp only [Act.put, List.setIfInBounds_toArray, List.set_cons_zero, List.set_cons_succ])
      first | (refine take_on (i := 5) (v := ?_) rfl (by kernel_rfl) (by kernel_rfl) (by kernel_rfl) (fun _ _ _ h => h) rfl ?_ (by assumption) ?_; rotate_left; · (intro w' hSw; (try dsimp only at hSw); go_simp; (try with_reducible rfl))) | (refine take_off (i := 5) rfl (by kernel_rfl) (by kernel_rfl) (by kernel_rfl) (fun _ _ _ h => h) rfl (by assumption) ?_)
      (try simp only [Act.put, List.setIfInBounds_toArray, List.set_cons_zero, List.set_cons_succ])
      first | (refine take_on (i := 6) (v := ?_) rfl (by kernel_rfl) (by kernel_rfl) (by kernel_rfl) (fun _ _ _ h => h) rfl ?_ (by assumption) ?_; rotate_left; · (intro w' hSw; (try dsimp only at hSw); go_simp; (try with_reducible rfl))) | (refine take_off (i := 6) rfl (by kernel_rfl) (by kernel_rfl) (by kernel_rfl) (fun _ _ _ h => h) rfl (by assumption) ?_)
      (try simp only [Act.put, List.setIfInBounds_toArray, List.set_cons_zero, List.set_cons_succ])
      first | (refine take_on (i := 7) (v := ?_) rfl (by kernel_rfl) (by kernel_rfl) (by kernel_rfl) (fun _ _ _ h => h) rfl ?_ (by assumption) ?_; rotate_left; · (intro w' hSw; (try dsimp only at hSw); go_simp; (try with_reducible rfl))) | (refine take_off (i := 7) rfl (by kernel_rfl) (by kernel_rfl) (by kernel_rfl) (fun _ _ _ h => h) rfl (by assumption) ?_)
      (try simp only [Act.put, List.setIfInBounds_toArray, List.set_cons_zero, List.set_cons_succ])
      first | (refine take_on (i := 8) (v := ?_) rfl (by kernel_rfl) (by kernel_rfl) (by kernel_rfl) (fun _ _ _ h => h) rfl ?_ (by assumption) ?_; rotate_left; · (intro w' hSw; (try dsimp only at hSw); go_simp; (try with_reducible rfl))) | (refine take_off (i := 8) rfl (by kernel_rfl) (by kernel_rfl) (by kernel_rfl) (fun _ _ _ h => h) rfl (by assumption) ?_)
      (try simp only [Act.put, List.setIfInBounds_toArray, List.set_cons_zero, List.set_cons_succ])
      first | (refine take_on (i := 9) (v := ?_) rfl (by kernel_rfl) (by kernel_rfl) (by kernel_rfl) (fun _ _ _ h => h) rfl ?_ (by assumption) ?_; rotate_left; · (intro w' hSw; (try dsimp only at hSw); go_simp; (try with_reducible rfl))) | (refine take_off (i := 9) rfl (by kernel_rfl) (by kernel_rfl) (by kernel_rfl) (fun _ _ _ h => h) rfl (by assumption) ?_)
      (try simp only [Act.put, List.setIfInBounds_toArray, List.set_cons_zero, List.set_cons_succ])
      first | (refine take_on (i := 10) (v := ?_) rfl (by kernel_rfl) (by kernel_rfl) (by kernel_rfl) (fun _ _ _ h => h) rfl ?_ (by assumption) ?_; rotate_left; · (intro w' hSw; (try dsimp only at hSw); go_simp; (try with_reducible rfl))) | (refine take_off (i := 10) rfl (by kernel_rfl) (by kernel_rfl) (by kernel_rfl) (fun _ _ _ h => h) rfl (by assumption) ?_)
      (try simp only [Act.put, List.setIfInBounds_toArray, List.set_cons_zero, List.set_cons_succ])
      first | (refine take_on (i := 11) (v := ?_) rfl (by kernel_rfl) (by kernel_rfl) (by kernel_rfl) (fun _ _ _ h => h) rfl ?_ (by assumption) ?_; rotate_left; · (intro w' hSw; (try dsimp only at hSw); go_simp; (try with_reducible rfl))) | (refine take_off (i := 11) rfl (by kernel_rfl) (by kernel_rfl) (by kernel_rfl) (fun _ _ _ h => h) rfl (by assumption) ?_)
      (try simp only [Act.put, List.setIfInBounds_toArray, List.set_cons_zero, List.set_cons_succ])
      first | (refine take_on (i := 12) (v := ?_) rfl (by kernel_rfl) (by kernel_rfl) (by kernel_rfl) (fun _ _ _ h => h) rfl ?_ (by assumption) ?_; rotate_left; · (intro w' hSw; (try dsimp only at hSw); go_simp; (try with_reducible rfl))) | (refine take_off (i := 12) rfl (by kernel_rfl) (by kernel_rfl) (by kernel_rfl) (fun _ _ _ h => h) rfl (by assumption) ?_)
      (try simp only [Act.put, List.setIfInBounds_toArray, List.set_cons_zero, List.set_cons_succ])
      refine wpAnyH_ready (rs := [13]) (by kernel_rfl) (by simp) ?_
      refine AllReadyH.cons rfl (fun K hK => ?_) AllReadyH.nil
      rw [if_pos (by rfl)]
      go_simp
      first | (go_at_call 65; (with_reducible refine (l02Last_any _ _ _ q _ S[j].l _ (by first | exact c4 | exact c4d) (by first | exact P4.out | exact P4.out.drew) HQ.out hqx (by omega)).mono ?_); rintro e w' ⟨rfl, hb⟩; obtain ⟨_, hks, hkB⟩ := SB.next (by assumption) hb; obtain ⟨hkc, hkf⟩ := bcell hb; have hkz := hb.size; (try simp only [World.size_alloc, World.size_drew] at hkz); (first | (have hkt := Nat.lt_of_succ_le hkz) | (have hkt := Nat.lt_of_lt_of_le (by assumption) hkz) | skip); clear hb)
      refine hK.out _ _ ?_ (fun hHeld2 => ?_)
      · (try dsimp only); (first | exact SB.mk hkB | exact SB.mk ((Below.refl _ _).drew) | (go_split_ands; refine SB.mk (Below.drew ?_); assumption) | (refine SB.mk ?_; go_grown; done) | (go_split_ands; refine SB.mk ?_; go_grown; done))
      clear hK K hHeld; have hHeld := hHeld2; clear hHeld2; (try simp only [Act.put, List.setIfInBounds_toArray, List.set_cons_zero, List.set_cons_succ])
      first | (refine take_on (i := 14) (v := ?_) rfl (by kernel_rfl) (by kernel_rfl) (by kernel_rfl) (fun _ _ _ h => h) rfl ?_ (by assumption) ?_; rotate_left; · (intro w' hSw; (try dsimp only at hSw); go_simp; (try with_reducible rfl))) | (refine take_off (i := 14) rfl (by kernel_rfl) (by kernel_rfl) (by kernel_rfl) (fun _ _ _ h => h) rfl (by assumption) ?_)
      (try simp only [Act.put, List.setIfInBounds_toArray, List.set_cons_zero, List.set_cons_succ])
      first | (refine take_on (i := 15) (v := ?_) rfl (by kernel_rfl) (by kernel_rfl) (by kernel_rfl) (fun _ _ _ h => h) rfl ?_ (by assumption) ?_; rotate_left; · (intro w' hSw; (try dsimp only at hSw); go_simp; (try with_reducible rfl))) | (refine take_off (i := 15) rfl (by kernel_rfl) (by kernel_rfl) (by kernel_rfl) (fun _ _ _ h => h) rfl (by assumption) ?_)
      (try simp only [Act.put, List.setIfInBounds_toArray, List.set_cons_zero, List.set_cons_succ])
      refine wpAnyH_done (by kernel_rfl) ?_ _
      clear hHeld
      obtain ⟨w5, rfl⟩ : ∃ w5, w5 = w' := ⟨w', rfl⟩
      have hB5 : Below w3.heap.size w3 w5 := hkB
      clear hkB hks hkc hkf hkz
      have hT5 := Below.next hT3 hB5
      have hz5 := hB5.size
      have ho5 := ho3.next hB5
      obtain ⟨o5, p5⟩ := bk1 ho5
      have hl50 : w.heap.size < w5.heap.size := by omega
      have hl51 : w.heap.size + 1 < w5.heap.size := by omega
      have hl52 : w.heap.size + 1 + 1 < w5.heap.size := by omega
      have hcs5 : w5.cell? ⟨w.heap.size, 0, none⟩ = some (.slice (some ⟨b1, o1, none⟩) (j + 1) c) := (hB5.cell (p := ⟨w.heap.size, 0, none⟩) hws3).trans hcs3
      have hcx5 : w5.cell? ⟨w.heap.size + 1, 0, none⟩ = some (.slice (some ⟨bx, ox, none⟩) m d) := (hB5.cell (p := ⟨w.heap.size + 1, 0, none⟩) hws4).trans hcx3
      have HA5 := Lib.hid (HA3.out.below hB5)
      have HX5 := Lib.hid (HX3.out.below hB5)
      go_wp2_with fail
      refine (l02Own_any w.heap.size 0 (some ⟨b1, o1, none⟩) (j + 1) c S _ hcs5 HA5.out hpos hn).mono ?_
      rintro e w6 ⟨A4, c4, T, rfl, hp6, ho6i, hb6⟩
      have HP6 := Lib.hid hp6
      have HI6 : Hid (InkOwn w6 w5.heap.size w6.heap.size (.slice A4 (j + 1) c4) T) := ho6i
      have TL : Hid (T.length = j + 1) := len_of hp6 LA.out
      have HV6 : Hid (∀ k, (Value.slice A4 (j + 1) c4).ownBlock = some k → w5.heap.size ≤ k ∧ k < w6.heap.size) := ho6i.row.lt
      have hT6 := Below.next hT5 hb6
      have hz6 := hb6.size
      have ho6 := ho5.next hb6
      obtain ⟨o6, p6⟩ := bk1 ho6
      have hr6 := ho6.lt
      have hx6 : w.heap.size + 1 < w6.heap.size := by omega
      have hx60 : w.heap.size < w6.heap.size := by omega
      have hcx6 : w6.cell? ⟨w.heap.size + 1, 0, none⟩ = some (.slice (some ⟨bx, ox, none⟩) m d) := (hb6.cell (p := ⟨w.heap.size + 1, 0, none⟩) (by omega)).trans hcx5
      have HX6 := Lib.hid ((HX5.out.below hb6).alloc (.cells #[.slice A4 (j + 1) c4] 29))
      have hcx6d : (w6.alloc (.cells #[.slice A4 (j + 1) c4] 29)).drew.cell? ⟨w.heap.size + 1, 0, none⟩ = some (.slice (some ⟨bx, ox, none⟩) m d) := by show (w6.alloc _).cell? _ = _; go_simp
      obtain ⟨ob, hob⟩ : ∃ ob, (Value.slice A4 (j + 1) c4).ownBlock = ob := ⟨_, rfl⟩
      have HOB := Lib.hid hob
      have hva : ¬ ob = some (w.heap.size + 1) := fun e => by have := HV6.out _ (hob.trans e); omega
      have hvb : ¬ w.heap.size + 1 = w6.heap.size := by omega
      have hvc : ¬ ob = some w6.heap.size := fun e => by have := HV6.out _ (hob.trans e); omega
      clear hob hp6 ho6i hb6 o5 p5
      go_wp2_with fail
      refine wp_region_held_drew (S := (fun w' => (∀ kb ko, kb < (w6.alloc (.cells #[.slice A4 (j + 1) c4] 29)).heap.size → ¬ ob = some kb → ¬ kb = w6.heap.size → w'.cell? ⟨kb, ko, none⟩ = (w6.alloc (.cells #[.slice A4 (j + 1) c4] 29)).cell? ⟨kb, ko, none⟩) ∧ (w6.alloc (.cells #[.slice A4 (j + 1) c4] 29)).heap.size ≤ w'.heap.size ∧ Below (w5.heap.size) (w6.alloc (.cells #[.slice A4 (j + 1) c4] 29)) w')) (by kernel_rfl) ?_ (fun hHeld => ?_)
      · (try dsimp only); exact S2.mk6 ((Below.refl _ _).drew) (by simp only [World.size_alloc]; omega)
      first | (refine take_on (i := 0) (v := ?_) rfl (by kernel_rfl) (by kernel_rfl) (by kernel_rfl) (fun _ _ _ h => h) rfl ?_ (by assumption) ?_; rotate_left; · (intro w' hSw; (try dsimp only at hSw); go_simp; (try with_reducible rfl))) | (refine take_off (i := 0) rfl (by kernel_rfl) (by kernel_rfl) (by kernel_rfl) (fun _ _ _ h => h) rfl (by assumption) ?_)
      (try simp only [Act.put, List.setIfInBounds_toArray, List.set_cons_zero, List.set_cons_succ])
      refine wpAnyH_ready (rs := [1, 2]) (by kernel_rfl) (by simp) ?_
      refine AllReadyH.cons rfl (fun K hK => ?_) (AllReadyH.cons rfl (fun K hK => ?_) (AllReadyH.nil))
      · rw [if_pos (by rfl)]
        go_simp
        refine hK.out _ _ ?_ (fun hHeld2 => ?_)
        · (try dsimp only); exact hHeld
        clear hK K hHeld; have hHeld := hHeld2; clear hHeld2; (try simp only [Act.put, List.setIfInBounds_toArray, List.set_cons_zero, List.set_cons_succ])
        refine wpAnyH_ready (rs := [2]) (by kernel_rfl) (by simp) ?_
        refine AllReadyH.cons rfl (fun K hK => ?_) AllReadyH.nil
        rw [if_pos (by rfl)]
        go_simp
        go_at_call 66
        (with_reducible refine (l02OwnStroke_any (w.heap.size + 1) 0 (some ⟨bx, ox, none⟩) m d xs _ (by first | exact hcx6d | exact hcx6) (by first | exact HX6.out | exact HX6.out.alloc _ | exact HX6.out.drew) LX.out hx0 hm).mono ?_)
        rintro e w7 ⟨A7, c7, rfl, ho7, hb7⟩
        have hB7 : Below (w6.alloc (.cells #[.slice A4 (j + 1) c4] 29)).heap.size (w6.alloc (.cells #[.slice A4 (j + 1) c4] 29)) w7 := Below.next (by go_grown) hb7
        have hz7 := hB7.size
        have hz7' := hz7
        simp only [World.size_alloc] at hz7'
        have HO7 : Hid (Own ptC 72 3 w7 (w6.heap.size + 1) (.slice A7 m c7) xs) := by (try simp only [World.size_alloc, World.size_drew] at ho7); exact ho7
        have HI7 := Lib.hid ((HI6.out.alloc (.cells #[.slice A4 (j + 1) c4] 29)).next hB7)
        have hbk7 : Bk w7 w6.heap.size 29 #[.slice A4 (j + 1) c4] := (Bk.new w6 _ _).next hB7
        obtain ⟨e7, f7⟩ := bk1 hbk7
        have hgl7 := hbk7.lt
        clear ho7
        refine hK.out _ _ ?_ (fun hHeld2 => ?_)
        · (try dsimp only); exact S2.mk6 hB7 (by simp only [World.size_alloc]; omega)
        clear hK K hHeld; have hHeld := hHeld2; clear hHeld2; (try simp only [Act.put, List.setIfInBounds_toArray, List.set_cons_zero, List.set_cons_succ])
        refine wpAnyH_ready (rs := [3]) (by kernel_rfl) (by simp) ?_
        refine AllReadyH.cons rfl (fun K hK => ?_) AllReadyH.nil
        rw [if_pos (by rfl)]
        go_simp
        refine hK.out _ _ ?_ (fun hHeld2 => ?_)
        · (try dsimp only); exact S2.mk6 (hB7.alloc hz7 _) (by simp only [World.size_alloc]; omega)
        clear hK K hHeld; have hHeld := hHeld2; clear hHeld2; (try simp only [Act.put, List.setIfInBounds_toArray, List.set_cons_zero, List.set_cons_succ])
        refine wpAnyH_ready (rs := [4]) (by kernel_rfl) (by simp) ?_
        refine AllReadyH.cons rfl (fun K hK => ?_) AllReadyH.nil
        refine step_push elem_sk (by rfl) (.tmp 40) (.tmp 42) 27 (by rfl) Try.underlying27 w5.heap.size (.slice A4 (j + 1) c4) T ⟨A7, c7, xs⟩ (by rfl) (HI7.out.row.alloc _) (j + 1) TL.out w7.heap.size 1 (by rfl) (fun i u hu => ((Bk.new w7 #[.slice A7 m c7] 52).cell i).trans (by have h1 := LX.out; simpa [skC, St.val, h1] using hu)) (by unfold maxLen; omega) (by omega) (by simp only [World.size_alloc]; omega) ?_
        intro g8 cap8 w8 hown8 hgrow8 hat8 hlt8 hkeep8
        have hbk8 : Bk w8 w6.heap.size 29 #[.slice A4 (j + 1) c4] := (hgrow8.block _ (by simp only [World.size_alloc]; omega) (fun e => by have h2 := HV6.out _ e.symm; omega)).trans (hbk7.alloc _)
        obtain ⟨e8, f8⟩ := bk1 hbk8
        have hz8 := hgrow8.size
        simp only [World.size_alloc] at hz8
        have hgl8 := hbk8.lt
        refine hK.out _ _ ?_ (fun hHeld2 => ?_)
        · (try dsimp only); exact S2.push6 hHeld (by have h9 := hgrow8; rw [HOB.out] at h9; exact h9) (fun k hk => by have h2 := HV6.out k (HOB.out.trans hk); omega) (by simp only [World.size_alloc]; omega)
        clear hK K hHeld; have hHeld := hHeld2; clear hHeld2; (try simp only [Act.put, List.setIfInBounds_toArray, List.set_cons_zero, List.set_cons_succ])
        first | (refine take_on (i := 5) (v := ?_) rfl (by kernel_rfl) (by kernel_rfl) (by kernel_rfl) (fun _ _ _ h => h) rfl ?_ (by assumption) ?_; rotate_left; · (intro w' hSw; (try dsimp only at hSw); go_simp; (try with_reducible rfl))) | (refine take_off (i := 5) rfl (by kernel_rfl) (by kernel_rfl) (by kernel_rfl) (fun _ _ _ h => h) rfl (by assumption) ?_)
        (try simp only [Act.put, List.setIfInBounds_toArray, List.set_cons_zero, List.set_cons_succ])
        refine wpAnyH_ready (rs := [6]) (by kernel_rfl) (by simp) ?_
        refine AllReadyH.cons rfl (fun K hK => ?_) AllReadyH.nil
        rw [if_pos (by rfl)]
        go_simp
        refine hK.out _ _ ?_ (fun hHeld2 => ?_)
        · (try dsimp only); exact S2.store6 hHeld (by omega) _
        clear hK K hHeld; have hHeld := hHeld2; clear hHeld2; (try simp only [Act.put, List.setIfInBounds_toArray, List.set_cons_zero, List.set_cons_succ])
        refine wpAnyH_done (by kernel_rfl) ?_ _
        have hink := InkOwn.push HI7.out (t := ⟨A7, c7, xs⟩) (by have h1 := HO7.out.mono (show w5.heap.size ≤ w6.heap.size + 1 by omega); simpa [St.val, LX.out] using h1) (fun b hb => by have h1 := (HO7.out.lt b (by simpa [St.val, LX.out] using hb)).1; omega) (by omega) ((Below.refl _ _).alloc (Nat.le_refl _) _) hgrow8 hat8 hlt8 hown8
        have hink9 := hink.store ⟨w6.heap.size, 0, none⟩ (.slice (some ⟨g8, 0, none⟩) (j + 1 + 1) cap8) (fun e => by
          have e1 : g8 = w6.heap.size := by simpa [Value.ownBlock] using e
          rcases hat8 with h2 | h2
          · have := HV6.out _ h2; omega
          · (try simp only [World.size_alloc] at h2); omega) (fun s hs2 e => by
          rcases List.mem_append.1 hs2 with h3 | h3
          · have h4 := HI7.out.inner.top s h3 _ e
            (try simp only at h4); omega
          · rw [List.mem_singleton.1 h3] at e
            have h4 := (HO7.out.lt _ (by simpa [St.val, LX.out] using e)).1
            (try simp only at h4); omega)
        have HI9 : Hid (InkOwn (w8.setCell ⟨w6.heap.size, 0, none⟩ (.slice (some ⟨g8, 0, none⟩) (j + 1 + 1) cap8)) w5.heap.size w8.heap.size (.slice (some ⟨g8, 0, none⟩) (j + 1 + 1) cap8) (T ++ [⟨A7, c7, xs⟩])) := hink9
        have HP9 : Hid (ptsOf (T ++ [⟨A7, c7, xs⟩]) = ptsOf S ++ [xs]) := by rw [Hid, ptsOf_snoc, HP6.out]
        have TL9 : Hid ((T ++ [(⟨A7, c7, xs⟩ : St)]).length = j + 1 + 1) := by rw [Hid, List.length_append, TL.out]; rfl
        have hvar := bk1_put (a' := .slice (some ⟨g8, 0, none⟩) (j + 1 + 1) cap8) hbk8
        obtain ⟨w9, hw9⟩ : ∃ w9, w9 = w8.setCell ⟨w6.heap.size, 0, none⟩ (.slice (some ⟨g8, 0, none⟩) (j + 1 + 1) cap8) := ⟨_, rfl⟩
        have hsz9 : w9.heap.size = w8.heap.size := by rw [hw9]; simp [World.setCell]
        rw [← hw9] at hvar HI9 hHeld
        rw [← hw9]
        rw [← hsz9] at HI9
        have hS := hHeld.2.2
        have hT9 : Below w.heap.size w w9 := (hT6.alloc hT6.size (.cells #[.slice A4 (j + 1) c4] 29)).trans (hS.mono (by omega))
        have hlow9 : w5.heap.size ≤ w9.heap.size := by rw [hsz9]; omega
        have hl9 : w6.heap.size < w9.heap.size := by rw [hsz9]; omega
        have HSZ := Lib.hid hsz9
        obtain ⟨e9, f9⟩ := bk1 hvar
        have ho9 : Bk w9 (w.heap.size + 1 + 1) 29 #[.slice none 0 0] := (ho6.alloc (.cells #[.slice A4 (j + 1) c4] 29)).below hS (by omega)
        obtain ⟨o9, p9⟩ := bk1 ho9
        have hr9 := ho9.lt
        clear hHeld hS hink hink9 e8 f8 e7 f7 hown8 hgrow8 hat8 hkeep8 hbk7 hbk8 hw9 hsz9
        go_wp2_with fail
        refine bodyPost_ret (by simp [results, Try.results30, go_sem, *]; try rfl) rfl ?_
        refine ⟨some ⟨g8, 0, none⟩, cap8, T ++ [⟨A7, c7, xs⟩], rfl, by rw [HP9.out, HE.out], ?_, by go_grown⟩
        have hsz : (w9.setCell ⟨w.heap.size + 1 + 1, 0, none⟩ (.slice (some ⟨g8, 0, none⟩) (j + 1 + 1) cap8)).heap.size = w9.heap.size := by simp [World.setCell]
        rw [hsz]
        exact (HI9.out.keep fun k0 hk0 _ _ => Below.heap_setCell w9 ⟨w.heap.size + 1 + 1, 0, none⟩ (.slice (some ⟨g8, 0, none⟩) (j + 1 + 1) cap8) _ (by simp only [ne_eq]; omega)).low (show w.heap.size ≤ w5.heap.size by omega)
      · rw [if_pos (by rfl)]
        go_simp
        go_at_call 66
        (with_reducible refine (l02OwnStroke_any (w.heap.size + 1) 0 (some ⟨bx, ox, none⟩) m d xs _ (by first | exact hcx6d | exact hcx6) (by first | exact HX6.out | exact HX6.out.alloc _ | exact HX6.out.drew) LX.out hx0 hm).mono ?_)
        rintro e w7 ⟨A7, c7, rfl, ho7, hb7⟩
        have hB7 : Below (w6.alloc (.cells #[.slice A4 (j + 1) c4] 29)).heap.size (w6.alloc (.cells #[.slice A4 (j + 1) c4] 29)) w7 := Below.next (by go_grown) hb7
        have hz7 := hB7.size
        have hz7' := hz7
        simp only [World.size_alloc] at hz7'
        have HO7 : Hid (Own ptC 72 3 w7 (w6.heap.size + 1) (.slice A7 m c7) xs) := by (try simp only [World.size_alloc, World.size_drew] at ho7); exact ho7
        have HI7 := Lib.hid ((HI6.out.alloc (.cells #[.slice A4 (j + 1) c4] 29)).next hB7)
        have hbk7 : Bk w7 w6.heap.size 29 #[.slice A4 (j + 1) c4] := (Bk.new w6 _ _).next hB7
        obtain ⟨e7, f7⟩ := bk1 hbk7
        have hgl7 := hbk7.lt
        clear ho7
        refine hK.out _ _ ?_ (fun hHeld2 => ?_)
        · (try dsimp only); exact S2.mk6 hB7 (by simp only [World.size_alloc]; omega)
        clear hK K hHeld; have hHeld := hHeld2; clear hHeld2; (try simp only [Act.put, List.setIfInBounds_toArray, List.set_cons_zero, List.set_cons_succ])
        refine wpAnyH_ready (rs := [1, 3]) (by kernel_rfl) (by simp) ?_
        refine AllReadyH.cons rfl (fun K hK => ?_) (AllReadyH.cons rfl (fun K hK => ?_) (AllReadyH.nil))
        · rw [if_pos (by rfl)]
          go_simp
          refine hK.out _ _ ?_ (fun hHeld2 => ?_)
          · (try dsimp only); exact hHeld
          clear hK K hHeld; have hHeld := hHeld2; clear hHeld2; (try simp only [Act.put, List.setIfInBounds_toArray, List.set_cons_zero, List.set_cons_succ])
          refine wpAnyH_ready (rs := [3]) (by kernel_rfl) (by simp) ?_
          refine AllReadyH.cons rfl (fun K hK => ?_) AllReadyH.nil
          rw [if_pos (by rfl)]
          go_simp
          refine hK.out _ _ ?_ (fun hHeld2 => ?_)
          · (try dsimp only); exact S2.mk6 (hB7.alloc hz7 _) (by simp only [World.size_alloc]; omega)
          clear hK K hHeld; have hHeld := hHeld2; clear hHeld2; (try simp only [Act.put, List.setIfInBounds_toArray, List.set_cons_zero, List.set_cons_succ])
          refine wpAnyH_ready (rs := [4]) (by kernel_rfl) (by simp) ?_
          refine AllReadyH.cons rfl (fun K hK => ?_) AllReadyH.nil
          refine step_push elem_sk (by rfl) (.tmp 40) (.tmp 42) 27 (by rfl) Try.underlying27 w5.heap.size (.slice A4 (j + 1) c4) T ⟨A7, c7, xs⟩ (by rfl) (HI7.out.row.alloc _) (j + 1) TL.out w7.heap.size 1 (by rfl) (fun i u hu => ((Bk.new w7 #[.slice A7 m c7] 52).cell i).trans (by have h1 := LX.out; simpa [skC, St.val, h1] using hu)) (by unfold maxLen; omega) (by omega) (by simp only [World.size_alloc]; omega) ?_
          intro g8 cap8 w8 hown8 hgrow8 hat8 hlt8 hkeep8
          have hbk8 : Bk w8 w6.heap.size 29 #[.slice A4 (j + 1) c4] := (hgrow8.block _ (by simp only [World.size_alloc]; omega) (fun e => by have h2 := HV6.out _ e.symm; omega)).trans (hbk7.alloc _)
          obtain ⟨e8, f8⟩ := bk1 hbk8
          have hz8 := hgrow8.size
          simp only [World.size_alloc] at hz8
          have hgl8 := hbk8.lt
          refine hK.out _ _ ?_ (fun hHeld2 => ?_)
          · (try dsimp only); exact S2.push6 hHeld (by have h9 := hgrow8; rw [HOB.out] at h9; exact h9) (fun k hk => by have h2 := HV6.out k (HOB.out.trans hk); omega) (by simp only [World.size_alloc]; omega)
          clear hK K hHeld; have hHeld := hHeld2; clear hHeld2; (try simp only [Act.put, List.setIfInBounds_toArray, List.set_cons_zero, List.set_cons_succ])
          first | (refine take_on (i := 5) (v := ?_) rfl (by kernel_rfl) (by kernel_rfl) (by kernel_rfl) (fun _ _ _ h => h) rfl ?_ (by assumption) ?_; rotate_left; · (intro w' hSw; (try dsimp only at hSw); go_simp; (try with_reducible rfl))) | (refine take_off (i := 5) rfl (by kernel_rfl) (by kernel_rfl) (by kernel_rfl) (fun _ _ _ h => h) rfl (by assumption) ?_)
          (try simp only [Act.put, List.setIfInBounds_toArray, List.set_cons_zero, List.set_cons_succ])
          refine wpAnyH_ready (rs := [6]) (by kernel_rfl) (by simp) ?_
          refine AllReadyH.cons rfl (fun K hK => ?_) AllReadyH.nil
          rw [if_pos (by rfl)]
          go_simp
          refine hK.out _ _ ?_ (fun hHeld2 => ?_)
          · (try dsimp only); exact S2.store6 hHeld (by omega) _
          clear hK K hHeld; have hHeld := hHeld2; clear hHeld2; (try simp only [Act.put, List.setIfInBounds_toArray, List.set_cons_zero, List.set_cons_succ])
          refine wpAnyH_done (by kernel_rfl) ?_ _
          have hink := InkOwn.push HI7.out (t := ⟨A7, c7, xs⟩) (by have h1 := HO7.out.mono (show w5.heap.size ≤ w6.heap.size + 1 by omega); simpa [St.val, LX.out] using h1) (fun b hb => by have h1 := (HO7.out.lt b (by simpa [St.val, LX.out] using hb)).1; omega) (by omega) ((Below.refl _ _).alloc (Nat.le_refl _) _) hgrow8 hat8 hlt8 hown8
          have hink9 := hink.store ⟨w6.heap.size, 0, none⟩ (.slice (some ⟨g8, 0, none⟩) (j + 1 + 1) cap8) (fun e => by
            have e1 : g8 = w6.heap.size := by simpa [Value.ownBlock] using e
            rcases hat8 with h2 | h2
            · have := HV6.out _ h2; omega
            · (try simp only [World.size_alloc] at h2); omega) (fun s hs2 e => by
            rcases List.mem_append.1 hs2 with h3 | h3
            · have h4 := HI7.out.inner.top s h3 _ e
              (try simp only at h4); omega
            · rw [List.mem_singleton.1 h3] at e
              have h4 := (HO7.out.lt _ (by simpa [St.val, LX.out] using e)).1
              (try simp only at h4); omega)
          have HI9 : Hid (InkOwn (w8.setCell ⟨w6.heap.size, 0, none⟩ (.slice (some ⟨g8, 0, none⟩) (j + 1 + 1) cap8)) w5.heap.size w8.heap.size (.slice (some ⟨g8, 0, none⟩) (j + 1 + 1) cap8) (T ++ [⟨A7, c7, xs⟩])) := hink9
          have HP9 : Hid (ptsOf (T ++ [⟨A7, c7, xs⟩]) = ptsOf S ++ [xs]) := by rw [Hid, ptsOf_snoc, HP6.out]
          have TL9 : Hid ((T ++ [(⟨A7, c7, xs⟩ : St)]).length = j + 1 + 1) := by rw [Hid, List.length_append, TL.out]; rfl
          have hvar := bk1_put (a' := .slice (some ⟨g8, 0, none⟩) (j + 1 + 1) cap8) hbk8
          obtain ⟨w9, hw9⟩ : ∃ w9, w9 = w8.setCell ⟨w6.heap.size, 0, none⟩ (.slice (some ⟨g8, 0, none⟩) (j + 1 + 1) cap8) := ⟨_, rfl⟩
          have hsz9 : w9.heap.size = w8.heap.size := by rw [hw9]; simp [World.setCell]
          rw [← hw9] at hvar HI9 hHeld
          rw [← hw9]
          rw [← hsz9] at HI9
          have hS := hHeld.2.2
          have hT9 : Below w.heap.size w w9 := (hT6.alloc hT6.size (.cells #[.slice A4 (j + 1) c4] 29)).trans (hS.mono (by omega))
          have hlow9 : w5.heap.size ≤ w9.heap.size := by rw [hsz9]; omega
          have hl9 : w6.heap.size < w9.heap.size := by rw [hsz9]; omega
          have HSZ := Lib.hid hsz9
          obtain ⟨e9, f9⟩ := bk1 hvar
          have ho9 : Bk w9 (w.heap.size + 1 + 1) 29 #[.slice none 0 0] := (ho6.alloc (.cells #[.slice A4 (j + 1) c4] 29)).below hS (by omega)
          obtain ⟨o9, p9⟩ := bk1 ho9
          have hr9 := ho9.lt
          clear hHeld hS hink hink9 e8 f8 e7 f7 hown8 hgrow8 hat8 hkeep8 hbk7 hbk8 hw9 hsz9
          go_wp2_with fail
          refine bodyPost_ret (by simp [results, Try.results30, go_sem, *]; try rfl) rfl ?_
          refine ⟨some ⟨g8, 0, none⟩, cap8, T ++ [⟨A7, c7, xs⟩], rfl, by rw [HP9.out, HE.out], ?_, by go_grown⟩
          have hsz : (w9.setCell ⟨w.heap.size + 1 + 1, 0, none⟩ (.slice (some ⟨g8, 0, none⟩) (j + 1 + 1) cap8)).heap.size = w9.heap.size := by simp [World.setCell]
          rw [hsz]
          exact (HI9.out.keep fun k0 hk0 _ _ => Below.heap_setCell w9 ⟨w.heap.size + 1 + 1, 0, none⟩ (.slice (some ⟨g8, 0, none⟩) (j + 1 + 1) cap8) _ (by simp only [ne_eq]; omega)).low (show w.heap.size ≤ w5.heap.size by omega)
        · rw [if_pos (by rfl)]
          go_simp
          refine hK.out _ _ ?_ (fun hHeld2 => ?_)
          · (try dsimp only); exact S2.mk6 (hB7.alloc hz7 _) (by simp only [World.size_alloc]; omega)
          clear hK K hHeld; have hHeld := hHeld2; clear hHeld2; (try simp only [Act.put, List.setIfInBounds_toArray, List.set_cons_zero, List.set_cons_succ])
          refine wpAnyH_ready (rs := [1]) (by kernel_rfl) (by simp) ?_
          refine AllReadyH.cons rfl (fun K hK => ?_) AllReadyH.nil
          rw [if_pos (by rfl)]
          go_simp
          refine hK.out _ _ ?_ (fun hHeld2 => ?_)
          · (try dsimp only); exact hHeld
          clear hK K hHeld; have hHeld := hHeld2; clear hHeld2; (try simp only [Act.put, List.setIfInBounds_toArray, List.set_cons_zero, List.set_cons_succ])
          refine wpAnyH_ready (rs := [4]) (by kernel_rfl) (by simp) ?_
          refine AllReadyH.cons rfl (fun K hK => ?_) AllReadyH.nil
          refine step_push elem_sk (by rfl) (.tmp 40) (.tmp 42) 27 (by rfl) Try.underlying27 w5.heap.size (.slice A4 (j + 1) c4) T ⟨A7, c7, xs⟩ (by rfl) (HI7.out.row.alloc _) (j + 1) TL.out w7.heap.size 1 (by rfl) (fun i u hu => ((Bk.new w7 #[.slice A7 m c7] 52).cell i).trans (by have h1 := LX.out; simpa [skC, St.val, h1] using hu)) (by unfold maxLen; omega) (by omega) (by simp only [World.size_alloc]; omega) ?_
          intro g8 cap8 w8 hown8 hgrow8 hat8 hlt8 hkeep8
          have hbk8 : Bk w8 w6.heap.size 29 #[.slice A4 (j + 1) c4] := (hgrow8.block _ (by simp only [World.size_alloc]; omega) (fun e => by have h2 := HV6.out _ e.symm; omega)).trans (hbk7.alloc _)
          obtain ⟨e8, f8⟩ := bk1 hbk8
          have hz8 := hgrow8.size
          simp only [World.size_alloc] at hz8
          have hgl8 := hbk8.lt
          refine hK.out _ _ ?_ (fun hHeld2 => ?_)
          · (try dsimp only); exact S2.push6 hHeld (by have h9 := hgrow8; rw [HOB.out] at h9; exact h9) (fun k hk => by have h2 := HV6.out k (HOB.out.trans hk); omega) (by simp only [World.size_alloc]; omega)
          clear hK K hHeld; have hHeld := hHeld2; clear hHeld2; (try simp only [Act.put, List.setIfInBounds_toArray, List.set_cons_zero, List.set_cons_succ])
          first | (refine take_on (i := 5) (v := ?_) rfl (by kernel_rfl) (by kernel_rfl) (by kernel_rfl) (fun _ _ _ h => h) rfl ?_ (by assumption) ?_; rotate_left; · (intro w' hSw; (try dsimp only at hSw); go_simp; (try with_reducible rfl))) | (refine take_off (i := 5) rfl (by kernel_rfl) (by kernel_rfl) (by kernel_rfl) (fun _ _ _ h => h) rfl (by assumption) ?_)
          (try simp only [Act.put, List.setIfInBounds_toArray, List.set_cons_zero, List.set_cons_succ])
          refine wpAnyH_ready (rs := [6]) (by kernel_rfl) (by simp) ?_
          refine AllReadyH.cons rfl (fun K hK => ?_) AllReadyH.nil
          rw [if_pos (by rfl)]
          go_simp
          refine hK.out _ _ ?_ (fun hHeld2 => ?_)
          · (try dsimp only); exact S2.store6 hHeld (by omega) _
          clear hK K hHeld; have hHeld := hHeld2; clear hHeld2; (try simp only [Act.put, List.setIfInBounds_toArray, List.set_cons_zero, List.set_cons_succ])
          refine wpAnyH_done (by kernel_rfl) ?_ _
          have hink := InkOwn.push HI7.out (t := ⟨A7, c7, xs⟩) (by have h1 := HO7.out.mono (show w5.heap.size ≤ w6.heap.size + 1 by omega); simpa [St.val, LX.out] using h1) (fun b hb => by have h1 := (HO7.out.lt b (by simpa [St.val, LX.out] using hb)).1; omega) (by omega) ((Below.refl _ _).alloc (Nat.le_refl _) _) hgrow8 hat8 hlt8 hown8
          have hink9 := hink.store ⟨w6.heap.size, 0, none⟩ (.slice (some ⟨g8, 0, none⟩) (j + 1 + 1) cap8) (fun e => by
            have e1 : g8 = w6.heap.size := by simpa [Value.ownBlock] using e
            rcases hat8 with h2 | h2
            · have := HV6.out _ h2; omega
            · (try simp only [World.size_alloc] at h2); omega) (fun s hs2 e => by
            rcases List.mem_append.1 hs2 with h3 | h3
            · have h4 := HI7.out.inner.top s h3 _ e
              (try simp only at h4); omega
            · rw [List.mem_singleton.1 h3] at e
              have h4 := (HO7.out.lt _ (by simpa [St.val, LX.out] using e)).1
              (try simp only at h4); omega)
          have HI9 : Hid (InkOwn (w8.setCell ⟨w6.heap.size, 0, none⟩ (.slice (some ⟨g8, 0, none⟩) (j + 1 + 1) cap8)) w5.heap.size w8.heap.size (.slice (some ⟨g8, 0, none⟩) (j + 1 + 1) cap8) (T ++ [⟨A7, c7, xs⟩])) := hink9
          have HP9 : Hid (ptsOf (T ++ [⟨A7, c7, xs⟩]) = ptsOf S ++ [xs]) := by rw [Hid, ptsOf_snoc, HP6.out]
          have TL9 : Hid ((T ++ [(⟨A7, c7, xs⟩ : St)]).length = j + 1 + 1) := by rw [Hid, List.length_append, TL.out]; rfl
          have hvar := bk1_put (a' := .slice (some ⟨g8, 0, none⟩) (j + 1 + 1) cap8) hbk8
          obtain ⟨w9, hw9⟩ : ∃ w9, w9 = w8.setCell ⟨w6.heap.size, 0, none⟩ (.slice (some ⟨g8, 0, none⟩) (j + 1 + 1) cap8) := ⟨_, rfl⟩
          have hsz9 : w9.heap.size = w8.heap.size := by rw [hw9]; simp [World.setCell]
          rw [← hw9] at hvar HI9 hHeld
          rw [← hw9]
          rw [← hsz9] at HI9
          have hS := hHeld.2.2
          have hT9 : Below w.heap.size w w9 := (hT6.alloc hT6.size (.cells #[.slice A4 (j + 1) c4] 29)).trans (hS.mono (by omega))
          have hlow9 : w5.heap.size ≤ w9.heap.size := by rw [hsz9]; omega
          have hl9 : w6.heap.size < w9.heap.size := by rw [hsz9]; omega
          have HSZ := Lib.hid hsz9
          obtain ⟨e9, f9⟩ := bk1 hvar
          have ho9 : Bk w9 (w.heap.size + 1 + 1) 29 #[.slice none 0 0] := (ho6.alloc (.cells #[.slice A4 (j + 1) c4] 29)).below hS (by omega)
          obtain ⟨o9, p9⟩ := bk1 ho9
          have hr9 := ho9.lt
          clear hHeld hS hink hink9 e8 f8 e7 f7 hown8 hgrow8 hat8 hkeep8 hbk7 hbk8 hw9 hsz9
          go_wp2_with fail
          refine bodyPost_ret (by simp [results, Try.results30, go_sem, *]; try rfl) rfl ?_
          refine ⟨some ⟨g8, 0, none⟩, cap8, T ++ [⟨A7, c7, xs⟩], rfl, by rw [HP9.out, HE.out], ?_, by go_grown⟩
          have hsz : (w9.setCell ⟨w.heap.size + 1 + 1, 0, none⟩ (.slice (some ⟨g8, 0, none⟩) (j + 1 + 1) cap8)).heap.size = w9.heap.size := by simp [World.setCell]
          rw [hsz]
          exact (HI9.out.keep fun k0 hk0 _ _ => Below.heap_setCell w9 ⟨w.heap.size + 1 + 1, 0, none⟩ (.slice (some ⟨g8, 0, none⟩) (j + 1 + 1) cap8) _ (by simp only [ne_eq]; omega)).low (show w.heap.size ≤ w5.heap.size by omega)
    · have h4 : nextB (ptsOf S) xs = false := by rw [HNX.out]; have := of_decide_eq_true e4; exact decide_eq_false (by omega)
      have e4' : xs[0].t ≤ S[j].l[q].t := of_decide_eq_true e4
      rw [addR_late H1.out H2.out HF.out h4] at hR
      injection hR with e1 e2
      subst e1; subst e2
      obtain rfl : N = 0 := hN.symm
      clear h4 hN
      go_enter Try.func30, Try.ntmps30
      go_wp2_with fail
      refine HV.mono ?_
      rintro e w2 ⟨rfl, hb⟩
      clear HV
      obtain ⟨hws, hws1, hws2, hcs, hcx, ho, hT⟩ := start.out w2 hb
      have HA2 := Lib.hid (HA0.out.below hb)
      have HX2 := Lib.hid (HX0.out.below hb)
      obtain ⟨o0, p0⟩ := bk1 ho
      clear hb
      go_wp2_with fail
      refine (l02Stroke_of H2 _ hcx HX2.out LX.out hm).mono ?_
      rintro e w3 ⟨rfl, hb3⟩
      have hT3 := Below.next hT hb3
      have hws3 : w.heap.size < w3.heap.size := Nat.lt_of_lt_of_le hws hb3.size
      have hws4 : w.heap.size + 1 < w3.heap.size := Nat.lt_of_lt_of_le hws1 hb3.size
      have hws5 : w.heap.size + 1 + 1 < w3.heap.size := Nat.lt_of_lt_of_le hws2 hb3.size
      have hcs3 : w3.cell? ⟨w.heap.size, 0, none⟩ = some (.slice A (j + 1) c) := (hb3.cell (p := ⟨w.heap.size, 0, none⟩) hws).trans hcs
      have hcx3 : w3.cell? ⟨w.heap.size + 1, 0, none⟩ = some (.slice B m d) := (hb3.cell (p := ⟨w.heap.size + 1, 0, none⟩) hws1).trans hcx
      have ho3 := ho.next hb3
      have HA3 := Lib.hid (HA2.out.below hb3)
      have HX3 := Lib.hid (HX2.out.below hb3)
      obtain ⟨o3, p3⟩ := bk1 ho3
      clear hb3 o0 p0 hcs hcx ho HA2 HX2
      obtain ⟨b1, o1, eA, l1, c4, p4⟩ := HA3.out.at kj
      rw [HQ.out] at c4 p4
      have P4 := Lib.hid p4
      clear p4
      obtain ⟨bx, ox, eB, lx, x1, x2, x3⟩ := HX3.out.pt LX.out hx1
      simp only [Nat.zero_mul, Nat.add_zero] at x1 x2 x3
      have c4d : w3.drew.cell? ⟨b1, o1 + j, none⟩ = some (.slice S[j].A (q + 1) S[j].c) := c4
      have hwj : IntKind.i64.wrap (j : Int) = (j : Int) := IntWalk.i64_in _ (by omega)
      have hj0 : (0 : Int) ≤ (j : Int) := by omega
      have hj1 : (j : Int) < (j : Int) + 1 := by omega
      have hj2 : (0 : Int) < (j : Int) + 1 := by omega
      have hm0 : (0 : Int) < (m : Int) := by omega
      subst eA; subst eB
      go_wp2_with fail
      refine wp_region_held_drew (S := (fun w' => (∀ kb ko, kb < w3.heap.size → w'.cell? ⟨kb, ko, none⟩ = w3.cell? ⟨kb, ko, none⟩) ∧ w3.heap.size ≤ w'.heap.size ∧ Below w3.heap.size w3 w')) (by kernel_rfl) ?_ (fun hHeld => ?_)
      · (try dsimp only); (first | exact SB.mk hkB | exact SB.mk ((Below.refl _ _).drew) | (go_split_ands; refine SB.mk (Below.drew ?_); assumption) | (refine SB.mk ?_; go_grown; done) | (go_split_ands; refine SB.mk ?_; go_grown; done))
      first | (refine take_on (i := 0) (v := ?_) rfl (by kernel_rfl) (by kernel_rfl) (by kernel_rfl) (fun _ _ _ h => h) rfl ?_ (by assumption) ?_; rotate_left; · (intro w' hSw; (try dsimp only at hSw); go_simp; (try with_reducible rfl))) | (refine take_off (i := 0) rfl (by kernel_rfl) (by kernel_rfl) (by kernel_rfl) (fun _ _ _ h => h) rfl (by assumption) ?_)
      (try simp only [Act.put, List.setIfInBounds_toArray, List.set_cons_zero, List.set_cons_succ])
      first | (refine take_on (i := 1) (v := ?_) rfl (by kernel_rfl) (by kernel_rfl) (by kernel_rfl) (fun _ _ _ h => h) rfl ?_ (by assumption) ?_; rotate_left; · (intro w' hSw; (try dsimp only at hSw); go_simp; (try with_reducible rfl))) | (refine take_off (i := 1) rfl (by kernel_rfl) (by kernel_rfl) (by kernel_rfl) (fun _ _ _ h => h) rfl (by assumption) ?_)
      (try simp only [Act.put, List.setIfInBounds_toArray, List.set_cons_zero, List.set_cons_succ])
      first | (refine take_on (i := 2) (v := ?_) rfl (by kernel_rfl) (by kernel_rfl) (by kernel_rfl) (fun _ _ _ h => h) rfl ?_ (by assumption) ?_; rotate_left; · (intro w' hSw; (try dsimp only at hSw); go_simp; (try with_reducible rfl))) | (refine take_off (i := 2) rfl (by kernel_rfl) (by kernel_rfl) (by kernel_rfl) (fun _ _ _ h => h) rfl (by assumption) ?_)
      (try simp only [Act.put, List.setIfInBounds_toArray, List.set_cons_zero, List.set_cons_succ])
      first | (refine take_on (i := 3) (v := ?_) rfl (by kernel_rfl) (by kernel_rfl) (by kernel_rfl) (fun _ _ _ h => h) rfl ?_ (by assumption) ?_; rotate_left; · (intro w' hSw; (try dsimp only at hSw); go_simp; (try with_reducible rfl))) | (refine take_off (i := 3) rfl (by kernel_rfl) (by kernel_rfl) (by kernel_rfl) (fun _ _ _ h => h) rfl (by assumption) ?_)
      (try simp only [Act.put, List.setIfInBounds_toArray, List.set_cons_zero, List.set_cons_succ])
      first | (refine take_on (i := 4) (v := ?_) rfl (by kernel_rfl) (by kernel_rfl) (by kernel_rfl) (fun _ _ _ h => h) rfl ?_ (by assumption) ?_; rotate_left; · (intro w' hSw; (try dsimp only at hSw); go_simp; (try with_reducible rfl))) | (refine take_off (i := 4) rfl (by kernel_rfl) (by kernel_rfl) (by kernel_rfl) (fun _ _ _ h => h) rfl (by assumption) ?_)
      (try simp only [Act.put, List.setIfInBounds_toArray, List.set_cons_zero, List.set_cons_succ])
      first | (refine take_on (i := 5) (v := ?_) rfl (by kernel_rfl) (by kernel_rfl) (by kernel_rfl) (fun _ _ _ h => h) rfl ?_ (by assumption) ?_; rotate_left; · (intro w' hSw; (try dsimp only at hSw); go_simp; (try with_reducible rfl))) | (refine take_off (i := 5) rfl (by kernel_rfl) (by kernel_rfl) (by kernel_rfl) (fun _ _ _ h => h) rfl (by assumption) ?_)
      (try simp only [Act.put, List.setIfInBounds_toArray, List.set_cons_zero, List.set_cons_succ])
      first | (refine take_on (i := 6) (v := ?_) rfl (by kernel_rfl) (by kernel_rfl) (by kernel_rfl) (fun _ _ _ h => h) rfl ?_ (by assumption) ?_; rotate_left; · (intro w' hSw; (try dsimp only at hSw); go_simp; (try with_reducible rfl))) | (refine take_off (i := 6) rfl (by kernel_rfl) (by kernel_rfl) (by kernel_rfl) (fun _ _ _ h => h) rfl (by assumption) ?_)
      (try simp only [Act.put, List.setIfInBounds_toArray, List.set_cons_zero, List.set_cons_succ])
      first | (refine take_on (i := 7) (v := ?_) rfl (by kernel_rfl) (by kernel_rfl) (by kernel_rfl) (fun _ _ _ h => h) rfl ?_ (by assumption) ?_; rotate_left; · (intro w' hSw; (try dsimp only at hSw); go_simp; (try with_reducible rfl))) | (refine take_off (i := 7) rfl (by kernel_rfl) (by kernel_rfl) (by kernel_rfl) (fun _ _ _ h => h) rfl (by assumption) ?_)
      (try simp only [Act.put, List.setIfInBounds_toArray, List.set_cons_zero, List.set_cons_succ])
      first | (refine take_on (i := 8) (v := ?_) rfl (by kernel_rfl) (by kernel_rfl) (by kernel_rfl) (fun _ _ _ h => h) rfl ?_ (by assumption) ?_; rotate_left; · (intro w' hSw; (try dsimp only at hSw); go_simp; (try with_reducible rfl))) | (refine take_off (i := 8) rfl (by kernel_rfl) (by kernel_rfl) (by kernel_rfl) (fun _ _ _ h => h) rfl (by assumption) ?_)
      (try simp only [Act.put, List.setIfInBounds_toArray, List.set_cons_zero, List.set_cons_succ])
      first | (refine take_on (i := 9) (v := ?_) rfl (by kernel_rfl) (by kernel_rfl) (by kernel_rfl) (fun _ _ _ h => h) rfl ?_ (by assumption) ?_; rotate_left; · (intro w' hSw; (try dsimp only at hSw); go_simp; (try with_reducible rfl))) | (refine take_off (i := 9) rfl (by kernel_rfl) (by kernel_rfl) (by kernel_rfl) (fun _ _ _ h => h) rfl (by assumption) ?_)
      (try simp only [Act.put, List.setIfInBounds_toArray, List.set_cons_zero, List.set_cons_succ])
      first | (refine take_on (i := 10) (v := ?_) rfl (by kernel_rfl) (by kernel_rfl) (by kernel_rfl) (fun _ _ _ h => h) rfl ?_ (by assumption) ?_; rotate_left; · (intro w' hSw; (try dsimp only at hSw); go_simp; (try with_reducible rfl))) | (refine take_off (i := 10) rfl (by kernel_rfl) (by kernel_rfl) (by kernel_rfl) (fun _ _ _ h => h) rfl (by assumption) ?_)
      (try simp only [Act.put, List.setIfInBounds_toArray, List.set_cons_zero, List.set_cons_succ])
      first | (refine take_on (i := 11) (v := ?_) rfl (by kernel_rfl) (by kernel_rfl) (by kernel_rfl) (fun _ _ _ h => h) rfl ?_ (by assumption) ?_; rotate_left; · (intro w' hSw; (try dsimp only at hSw); go_simp; (try with_reducible rfl))) | (refine take_off (i := 11) rfl (by kernel_rfl) (by kernel_rfl) (by kernel_rfl) (fun _ _ _ h => h) rfl (by assumption) ?_)
      (try simp only [Act.put, List.setIfInBounds_toArray, List.set_cons_zero, List.set_cons_succ])
      first | (refine take_on (i := 12) (v := ?_) rfl (by kernel_rfl) (by kernel_rfl) (by kernel_rfl) (fun _ _ _ h => h) rfl ?_ (by assumption) ?_; rotate_left; · (intro w' hSw; (try dsimp only at hSw); go_simp; (try with_reducible rfl))) | (refine take_off (i := 12) rfl (by kernel_rfl) (by kernel_rfl) (by kernel_rfl) (fun _ _ _ h => h) rfl (by assumption) ?_)
      (try simp only [Act.put, List.setIfInBounds_toArray, List.set_cons_zero, List.set_cons_succ])
      refine wpAnyH_ready (rs := [13]) (by kernel_rfl) (by simp) ?_
      refine AllReadyH.cons rfl (fun K hK => ?_) AllReadyH.nil
      rw [if_pos (by rfl)]
      go_simp
      first | (go_at_call 65; (with_reducible refine (l02Last_any _ _ _ q _ S[j].l _ (by first | exact c4 | exact c4d) (by first | exact P4.out | exact P4.out.drew) HQ.out hqx (by omega)).mono ?_); rintro e w' ⟨rfl, hb⟩; obtain ⟨_, hks, hkB⟩ := SB.next (by assumption) hb; obtain ⟨hkc, hkf⟩ := bcell hb; have hkz := hb.size; (try simp only [World.size_alloc, World.size_drew] at hkz); (first | (have hkt := Nat.lt_of_succ_le hkz) | (have hkt := Nat.lt_of_lt_of_le (by assumption) hkz) | skip); clear hb)
      refine hK.out _ _ ?_ (fun hHeld2 => ?_)
      · (try dsimp only); (first | exact SB.mk hkB | exact SB.mk ((Below.refl _ _).drew) | (go_split_ands; refine SB.mk (Below.drew ?_); assumption) | (refine SB.mk ?_; go_grown; done) | (go_split_ands; refine SB.mk ?_; go_grown; done))
      clear hK K hHeld; have hHeld := hHeld2; clear hHeld2; (try simp only [Act.put, List.setIfInBounds_toArray, List.set_cons_zero, List.set_cons_succ])
      first | (refine take_on (i := 14) (v := ?_) rfl (by kernel_rfl) (by kernel_rfl) (by kernel_rfl) (fun _ _ _ h => h) rfl ?_ (by assumption) ?_; rotate_left; · (intro w' hSw; (try dsimp only at hSw); go_simp; (try with_reducible rfl))) | (refine take_off (i := 14) rfl (by kernel_rfl) (by kernel_rfl) (by kernel_rfl) (fun _ _ _ h => h) rfl (by assumption) ?_)
      (try simp only [Act.put, List.setIfInBounds_toArray, List.set_cons_zero, List.set_cons_succ])
      first | (refine take_on (i := 15) (v := ?_) rfl (by kernel_rfl) (by kernel_rfl) (by kernel_rfl) (fun _ _ _ h => h) rfl ?_ (by assumption) ?_; rotate_left; · (intro w' hSw; (try dsimp only at hSw); go_simp; (try with_reducible rfl))) | (refine take_off (i := 15) rfl (by kernel_rfl) (by kernel_rfl) (by kernel_rfl) (fun _ _ _ h => h) rfl (by assumption) ?_)
      (try simp only [Act.put, List.setIfInBounds_toArray, List.set_cons_zero, List.set_cons_succ])
      refine wpAnyH_done (by kernel_rfl) ?_ _
      clear hHeld
      obtain ⟨w5, rfl⟩ : ∃ w5, w5 = w' := ⟨w', rfl⟩
      have hB5 : Below w3.heap.size w3 w5 := hkB
      clear hkB hks hkc hkf hkz
      have hT5 := Below.next hT3 hB5
      have hz5 := hB5.size
      have ho5 := ho3.next hB5
      obtain ⟨o5, p5⟩ := bk1 ho5
      have hl50 : w.heap.size < w5.heap.size := by omega
      have hl51 : w.heap.size + 1 < w5.heap.size := by omega
      have hl52 : w.heap.size + 1 + 1 < w5.heap.size := by omega
      have hcs5 : w5.cell? ⟨w.heap.size, 0, none⟩ = some (.slice (some ⟨b1, o1, none⟩) (j + 1) c) := (hB5.cell (p := ⟨w.heap.size, 0, none⟩) hws3).trans hcs3
      have hcx5 : w5.cell? ⟨w.heap.size + 1, 0, none⟩ = some (.slice (some ⟨bx, ox, none⟩) m d) := (hB5.cell (p := ⟨w.heap.size + 1, 0, none⟩) hws4).trans hcx3
      have HA5 := Lib.hid (HA3.out.below hB5)
      have HX5 := Lib.hid (HX3.out.below hB5)
      go_wp2_with fail
      refine bodyPost_ret (by simp [results, Try.results30, go_sem, *]; try rfl) rfl ?_
      exact ⟨none, 0, [], rfl, rfl, InkOwn.nil _ _ _, by go_grown⟩
end Go.Proofs.Ytnmmnikoogjhoaa
