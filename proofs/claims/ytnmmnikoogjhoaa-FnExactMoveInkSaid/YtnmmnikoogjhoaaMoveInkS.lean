/-
  An ink moved: program and reference give the same.
-/
import Derived.Test.YtnmmnikoogjhoaaMoveS
import Derived.Test.YtnmmnikoogjhoaaOwnInkS
namespace Go.Proofs.Ytnmmnikoogjhoaa
set_option linter.unusedSimpArgs false
set_option linter.unusedVariables false
set_option maxRecDepth 20000
open Go.RowKit
open Go.ChangeShapes Go.WideShapes Go.Deep Go.Joins

set_option maxHeartbeats 600000 in
theorem sMoveInk (A : Option Addr) (n c N : Nat) (code dx dy : Int) (S : List St) (P L : List (List Pt)) (w : World) (h : InkRd w A n S) (hP : ptsOf S = P) (hs : ∀ s ∈ S, s.l.length ≤ 1048576) (hn : n ≤ 1048576) (hR : moveR P dx dy = (L, code)) (hN : L.length = N) :
    Calls Try.prog 27 #[.agg #[.slice A n c], .int .i64 dx, .int .i64 dy] w fun e w' => ∃ A2 c2 T, e = .returned (.tuple #[.agg #[.slice A2 N c2], .int .i64 code]) ∧ ptsOf T = L ∧ InkOwn w' w.heap.size w'.heap.size (.slice A2 N c2) T ∧ Below w.heap.size w w' := by
  subst hP
  have HV := l02Ok_any w.heap.size 0 A n c S ((w.alloc (.cells #[.slice A n c] 29)).alloc (.cells #[.slice none 0 0] 29)) (by go_simp) ((h.alloc _).alloc _) hs hn
  have ho0 := (Bk.new1 w (.cells #[.slice A n c] 29) #[.slice none 0 0] 29)
  have HA0 : Hid (InkRd ((w.alloc (.cells #[.slice A n c] 29)).alloc (.cells #[.slice none 0 0] 29)) A n S) := (h.alloc _).alloc _
  have LA := Lib.hid h.len
  have PL : Hid ((ptsOf S).length = n) := by rw [Hid, ptsOf_len]; exact h.len
  clear h
  have start : Hid (∀ w2, Below ((w.alloc (.cells #[.slice A n c] 29)).alloc (.cells #[.slice none 0 0] 29)).heap.size ((w.alloc (.cells #[.slice A n c] 29)).alloc (.cells #[.slice none 0 0] 29)) w2 → w.heap.size < w2.heap.size ∧ w.heap.size + 1 < w2.heap.size ∧ w2.cell? ⟨w.heap.size, 0, none⟩ = some (.slice A n c) ∧ Bk w2 (w.heap.size + 1) 29 #[.slice none 0 0] ∧ Below w.heap.size w w2) := fun w2 hb => by
    have hz := hb.size
    simp only [World.size_alloc] at hz
    exact ⟨by omega, by omega, (hb.cell (p := ⟨w.heap.size, 0, none⟩) (by simp only [World.size_alloc]; omega)).trans (by go_simp), ho0.below hb (by simp only [World.size_alloc]; omega), Below.next (by go_grown) hb⟩
  clear ho0
  cases h1 : inkB (ptsOf S)
  · rw [h1] at HV
    rw [moveR_no h1] at hR
    injection hR with e1 e2
    subst e1; subst e2
    obtain rfl : N = 0 := hN.symm
    clear h1 hN
    go_enter Try.func27, Try.ntmps27
    go_wp2_with fail
    refine HV.mono ?_
    rintro e w2 ⟨rfl, hb⟩
    clear HV
    obtain ⟨hws, hws1, hcs, ho, hT⟩ := start.out w2 hb
    obtain ⟨o0, p0⟩ := bk1 ho
    clear hb
    go_wp2_with fail
    refine bodyPost_ret (by simp [results, Try.results27, go_sem, *]; try rfl) rfl ?_
    exact ⟨none, 0, [], rfl, rfl, InkOwn.nil _ _ _, by go_grown⟩
  · rw [h1] at HV
    have H1 := Lib.hid h1
    have hpts := inkB_pts h1
    have hpos : ∀ s ∈ S, 0 < s.l.length ∧ s.l.length ≤ 1048576 := fun s hs2 => ⟨inkB_pos h1 s hs2, hs s hs2⟩
    clear h1
    by_cases h0 : n = 0
    · subst h0
      have hnil := moveR_nil (dx := dx) (dy := dy) H1.out PL.out
      rw [hnil] at hR
      injection hR with e1 e2
      subst e1; subst e2
      obtain rfl : N = 0 := hN.symm
      clear hN hnil
      have HD : Hid (0 < 0 → (-4095 ≤ dx ∧ dx ≤ 4095) ∧ (-4095 ≤ dy ∧ dy ≤ 4095)) := fun h => absurd h (by omega)
      have hS0 : Hid (ptsOf S = []) := List.eq_nil_of_length_eq_zero PL.out
      have HK : Hid (inkB (mapP (mvP dx dy) (ptsOf S)) = true) := by rw [Hid, hS0.out]; have := H1.out; rw [hS0.out] at this; exact this
      have HE : Hid ([] = mapP (mvP dx dy) (ptsOf S)) := by rw [Hid, hS0.out]; rfl
      cases hx : inB dx (-4095) 4095 <;> cases hy : inB dy (-4095) 4095
      all_goals
        have HX := Lib.hid hx
        have HY := Lib.hid hy
        clear hx hy
        go_enter Try.func27, Try.ntmps27
        go_wp2_with fail
        refine HV.mono ?_
        rintro e w2 ⟨rfl, hb⟩
        clear HV
        obtain ⟨hws, hws1, hcs, ho, hT⟩ := start.out w2 hb
        obtain ⟨o0, p0⟩ := bk1 ho
        have HA2 := Lib.hid (HA0.out.below hb)
        clear hb
        go_wp2_with (first | (go_at_call 54; (with_reducible refine (l00In_is HX _).mono ?_); rintro e w' ⟨rfl, rfl⟩) | (go_at_call 54; (with_reducible refine (l00In_is HY _).mono ?_); rintro e w' ⟨rfl, rfl⟩))
        refine (l02Move_any w.heap.size 0 A 0 c S dx dy _ (by go_simp) HA2.out hpos hn hpts (HD.out)).mono ?_
        rintro e w4 ⟨A2, c2, T, rfl, hp4, ho4, hb4⟩
        have HP4 := Lib.hid hp4
        have HI4 := Lib.hid ho4
        have HT4 : Hid (T.length = 0) := by rw [Hid, ← ptsOf_len, hp4, mapP_len, ptsOf_len]; exact LA.out
        have HB4 : Hid (∀ s ∈ T, s.l.length ≤ 1048576) := fun s hs2 => by
          have h5 : s.l ∈ mapP (mvP dx dy) (ptsOf S) := hp4 ▸ List.mem_map_of_mem hs2
          obtain ⟨l0, h6, h7⟩ := List.mem_map.1 h5
          obtain ⟨s0, h8, rfl⟩ := List.mem_map.1 h6
          rw [← h7, List.length_map]
          exact hs s0 h8
        have hT4 := Below.next hT hb4
        have hz4 := hb4.size
        have ho4r := ho.next hb4
        obtain ⟨o4, p4⟩ := bk1 ho4r
        have hl4 := ho4r.lt
        clear hp4 ho4 hb4 o0 p0
        go_wp2_with fail
        have hok := l02Ok_any w4.heap.size 0 A2 0 c2 T (w4.alloc (.cells #[.slice A2 0 c2] 29)) (by go_simp) ((HI4.out.rd HT4.out).alloc _) HB4.out (by omega)
        rw [HP4.out, HK.out] at hok
        refine hok.mono ?_
        rintro e w6 ⟨rfl, hb6⟩
        clear hok
        have hT6 := Below.next (hT4.alloc hT4.size (.cells #[.slice A2 0 c2] 29)) hb6
        have hz6 := hb6.size
        simp only [World.size_alloc] at hz6
        have ho6 := (ho4r.alloc (.cells #[.slice A2 0 c2] 29)).next hb6
        have HI6 := Lib.hid ((HI4.out.alloc (.cells #[.slice A2 0 c2] 29)).next hb6)
        have hv6 : Bk w6 w4.heap.size 29 #[.slice A2 0 c2] := (Bk.new w4 _ _).next hb6
        obtain ⟨o6, p6⟩ := bk1 ho6
        obtain ⟨v6, q6⟩ := bk1 hv6
        have hl6 := ho6.lt
        have hl7 := hv6.lt
        clear hb6 o4 p4
        go_wp2_with fail
        refine bodyPost_ret (by simp [results, Try.results27, go_sem, *]; try rfl) rfl ?_
        refine ⟨A2, c2, T, rfl, by rw [HP4.out, ← HE.out], ?_, by go_grown⟩
        have hsz : (w6.setCell ⟨w.heap.size + 1, 0, none⟩ (.slice A2 0 c2)).heap.size = w6.heap.size := by simp [World.setCell]
        rw [hsz]
        have hh := (HI6.out.keep fun j hj _ _ => Below.heap_setCell w6 ⟨w.heap.size + 1, 0, none⟩ (.slice A2 0 c2) _ (by simp only [ne_eq]; omega)).low (show w.heap.size ≤ w2.heap.size by omega)
        exact ⟨hh.row, fun b hb => by have := hh.top b hb; omega, hh.inner.mono (by omega), hh.apt⟩
    · have H0 : Hid (¬ (ptsOf S).length = 0) := by rw [Hid, PL.out]; exact h0
      have hn0 : 0 < n := by omega
      have hnd : decide (0 < n) = true := decide_eq_true hn0
      cases hx : inB dx (-4095) 4095
      · have HX := Lib.hid hx
        clear hx h0
        rw [moveR_far H1.out H0.out (.inl HX.out)] at hR
        injection hR with e1 e2
        subst e1; subst e2
        obtain rfl : N = 0 := hN.symm
        clear hN
        go_enter Try.func27, Try.ntmps27
        go_wp2_with fail
        refine HV.mono ?_
        rintro e w2 ⟨rfl, hb⟩
        clear HV
        obtain ⟨hws, hws1, hcs, ho, hT⟩ := start.out w2 hb
        obtain ⟨o0, p0⟩ := bk1 ho
        have HA2 := Lib.hid (HA0.out.below hb)
        clear hb
        go_wp2_with (go_at_call 54; (with_reducible refine (l00In_is HX _).mono ?_); rintro e w' ⟨rfl, rfl⟩)
        refine bodyPost_ret (by simp [results, Try.results27, go_sem, *]; try rfl) rfl ?_
        exact ⟨none, 0, [], rfl, rfl, InkOwn.nil _ _ _, by go_grown⟩
      · cases hy : inB dy (-4095) 4095
        · have HX := Lib.hid hx
          have HY := Lib.hid hy
          clear hx hy h0
          rw [moveR_far H1.out H0.out (.inr HY.out)] at hR
          injection hR with e1 e2
          subst e1; subst e2
          obtain rfl : N = 0 := hN.symm
          clear hN
          go_enter Try.func27, Try.ntmps27
          go_wp2_with fail
          refine HV.mono ?_
          rintro e w2 ⟨rfl, hb⟩
          clear HV
          obtain ⟨hws, hws1, hcs, ho, hT⟩ := start.out w2 hb
          obtain ⟨o0, p0⟩ := bk1 ho
          have HA2 := Lib.hid (HA0.out.below hb)
          clear hb
          go_wp2_with (first | (go_at_call 54; (with_reducible refine (l00In_is HX _).mono ?_); rintro e w' ⟨rfl, rfl⟩) | (go_at_call 54; (with_reducible refine (l00In_is HY _).mono ?_); rintro e w' ⟨rfl, rfl⟩))
          refine bodyPost_ret (by simp [results, Try.results27, go_sem, *]; try rfl) rfl ?_
          exact ⟨none, 0, [], rfl, rfl, InkOwn.nil _ _ _, by go_grown⟩
        · have HX := Lib.hid hx
          have HY := Lib.hid hy
          have HD : Hid (0 < n → (-4095 ≤ dx ∧ dx ≤ 4095) ∧ (-4095 ≤ dy ∧ dy ≤ 4095)) := fun _ => ⟨inB_true hx, inB_true hy⟩
          clear hx hy h0
          cases hk : inkB (mapP (mvP dx dy) (ptsOf S))
          · have HK := Lib.hid hk
            clear hk
            rw [moveR_bad H1.out H0.out HX.out HY.out HK.out] at hR
            injection hR with e1 e2
            subst e2
            subst e1
            obtain rfl : N = 0 := hN.symm
            clear hN
            go_enter Try.func27, Try.ntmps27
            go_wp2_with fail
            refine HV.mono ?_
            rintro e w2 ⟨rfl, hb⟩
            clear HV
            obtain ⟨hws, hws1, hcs, ho, hT⟩ := start.out w2 hb
            obtain ⟨o0, p0⟩ := bk1 ho
            have HA2 := Lib.hid (HA0.out.below hb)
            clear hb
            go_wp2_with (first | (go_at_call 54; (with_reducible refine (l00In_is HX _).mono ?_); rintro e w' ⟨rfl, rfl⟩) | (go_at_call 54; (with_reducible refine (l00In_is HY _).mono ?_); rintro e w' ⟨rfl, rfl⟩))
            refine (l02Move_any w.heap.size 0 A n c S dx dy _ (by go_simp) HA2.out hpos hn hpts (HD.out)).mono ?_
            rintro e w4 ⟨A2, c2, T, rfl, hp4, ho4, hb4⟩
            have HP4 := Lib.hid hp4
            have HI4 := Lib.hid ho4
            have HT4 : Hid (T.length = n) := by rw [Hid, ← ptsOf_len, hp4, mapP_len, ptsOf_len]; exact LA.out
            have HB4 : Hid (∀ s ∈ T, s.l.length ≤ 1048576) := fun s hs2 => by
              have h5 : s.l ∈ mapP (mvP dx dy) (ptsOf S) := hp4 ▸ List.mem_map_of_mem hs2
              obtain ⟨l0, h6, h7⟩ := List.mem_map.1 h5
              obtain ⟨s0, h8, rfl⟩ := List.mem_map.1 h6
              rw [← h7, List.length_map]
              exact hs s0 h8
            have hT4 := Below.next hT hb4
            have hz4 := hb4.size
            have ho4r := ho.next hb4
            obtain ⟨o4, p4⟩ := bk1 ho4r
            have hl4 := ho4r.lt
            clear hp4 ho4 hb4 o0 p0
            go_wp2_with fail
            have hok := l02Ok_any w4.heap.size 0 A2 n c2 T (w4.alloc (.cells #[.slice A2 n c2] 29)) (by go_simp) ((HI4.out.rd HT4.out).alloc _) HB4.out hn
            rw [HP4.out, HK.out] at hok
            refine hok.mono ?_
            rintro e w6 ⟨rfl, hb6⟩
            clear hok
            have hT6 := Below.next (hT4.alloc hT4.size (.cells #[.slice A2 n c2] 29)) hb6
            have hz6 := hb6.size
            simp only [World.size_alloc] at hz6
            have ho6 := (ho4r.alloc (.cells #[.slice A2 n c2] 29)).next hb6
            have HI6 := Lib.hid ((HI4.out.alloc (.cells #[.slice A2 n c2] 29)).next hb6)
            have hv6 : Bk w6 w4.heap.size 29 #[.slice A2 n c2] := (Bk.new w4 _ _).next hb6
            obtain ⟨o6, p6⟩ := bk1 ho6
            obtain ⟨v6, q6⟩ := bk1 hv6
            have hl6 := ho6.lt
            have hl7 := hv6.lt
            clear hb6 o4 p4
            go_wp2_with fail
            refine bodyPost_ret (by simp [results, Try.results27, go_sem, *]; try rfl) rfl ?_
            exact ⟨none, 0, [], rfl, rfl, InkOwn.nil _ _ _, by go_grown⟩
          · have HK := Lib.hid hk
            clear hk
            rw [moveR_ok H1.out H0.out HX.out HY.out HK.out] at hR
            injection hR with e1 e2
            subst e2
            have HE : Hid (L = mapP (mvP dx dy) (ptsOf S)) := e1.symm
            obtain rfl : N = n := by rw [← hN, ← e1, mapP_len, PL.out]
            clear hN e1
            go_enter Try.func27, Try.ntmps27
            go_wp2_with fail
            refine HV.mono ?_
            rintro e w2 ⟨rfl, hb⟩
            clear HV
            obtain ⟨hws, hws1, hcs, ho, hT⟩ := start.out w2 hb
            obtain ⟨o0, p0⟩ := bk1 ho
            have HA2 := Lib.hid (HA0.out.below hb)
            clear hb
            go_wp2_with (first | (go_at_call 54; (with_reducible refine (l00In_is HX _).mono ?_); rintro e w' ⟨rfl, rfl⟩) | (go_at_call 54; (with_reducible refine (l00In_is HY _).mono ?_); rintro e w' ⟨rfl, rfl⟩))
            refine (l02Move_any w.heap.size 0 A N c S dx dy _ (by go_simp) HA2.out hpos hn hpts (HD.out)).mono ?_
            rintro e w4 ⟨A2, c2, T, rfl, hp4, ho4, hb4⟩
            have HP4 := Lib.hid hp4
            have HI4 := Lib.hid ho4
            have HT4 : Hid (T.length = N) := by rw [Hid, ← ptsOf_len, hp4, mapP_len, ptsOf_len]; exact LA.out
            have HB4 : Hid (∀ s ∈ T, s.l.length ≤ 1048576) := fun s hs2 => by
              have h5 : s.l ∈ mapP (mvP dx dy) (ptsOf S) := hp4 ▸ List.mem_map_of_mem hs2
              obtain ⟨l0, h6, h7⟩ := List.mem_map.1 h5
              obtain ⟨s0, h8, rfl⟩ := List.mem_map.1 h6
              rw [← h7, List.length_map]
              exact hs s0 h8
            have hT4 := Below.next hT hb4
            have hz4 := hb4.size
            have ho4r := ho.next hb4
            obtain ⟨o4, p4⟩ := bk1 ho4r
            have hl4 := ho4r.lt
            clear hp4 ho4 hb4 o0 p0
            go_wp2_with fail
            have hok := l02Ok_any w4.heap.size 0 A2 N c2 T (w4.alloc (.cells #[.slice A2 N c2] 29)) (by go_simp) ((HI4.out.rd HT4.out).alloc _) HB4.out hn
            rw [HP4.out, HK.out] at hok
            refine hok.mono ?_
            rintro e w6 ⟨rfl, hb6⟩
            clear hok
            have hT6 := Below.next (hT4.alloc hT4.size (.cells #[.slice A2 N c2] 29)) hb6
            have hz6 := hb6.size
            simp only [World.size_alloc] at hz6
            have ho6 := (ho4r.alloc (.cells #[.slice A2 N c2] 29)).next hb6
            have HI6 := Lib.hid ((HI4.out.alloc (.cells #[.slice A2 N c2] 29)).next hb6)
            have hv6 : Bk w6 w4.heap.size 29 #[.slice A2 N c2] := (Bk.new w4 _ _).next hb6
            obtain ⟨o6, p6⟩ := bk1 ho6
            obtain ⟨v6, q6⟩ := bk1 hv6
            have hl6 := ho6.lt
            have hl7 := hv6.lt
            clear hb6 o4 p4
            go_wp2_with fail
            refine bodyPost_ret (by simp [results, Try.results27, go_sem, *]; try rfl) rfl ?_
            refine ⟨A2, c2, T, rfl, by rw [HP4.out, ← HE.out], ?_, by go_grown⟩
            have hsz : (w6.setCell ⟨w.heap.size + 1, 0, none⟩ (.slice A2 N c2)).heap.size = w6.heap.size := by simp [World.setCell]
            rw [hsz]
            have hh := (HI6.out.keep fun j hj _ _ => Below.heap_setCell w6 ⟨w.heap.size + 1, 0, none⟩ (.slice A2 N c2) _ (by simp only [ne_eq]; omega)).low (show w.heap.size ≤ w2.heap.size by omega)
            exact ⟨hh.row, fun b hb => by have := hh.top b hb; omega, hh.inner.mono (by omega), hh.apt⟩

end Go.Proofs.Ytnmmnikoogjhoaa
