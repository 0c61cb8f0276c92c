/-
  Some strokes of an ink: program and reference give the same.
-/
import Derived.Test.YtnmmnikoogjhoaaCut
namespace Go.Proofs.Ytnmmnikoogjhoaa
set_option linter.unusedSimpArgs false
set_option linter.unusedVariables false
set_option maxRecDepth 20000
open Go.RowKit
open Go.ChangeShapes Go.WideShapes Go.Deep Go.Joins

set_option maxHeartbeats 8000000 in
theorem iCutInk (A : Option Addr) (n c N : Nat) (code f t : Int) (S : List St) (P L : List (List Pt)) (w : World) (h : InkRd w A n S) (hP : ptsOf S = P) (hs : ∀ s ∈ S, s.l.length ≤ 1048576) (hn : n ≤ 1048576) (hnc : n ≤ c) (hc : c ≤ 9223372036854775807) (hR : cutR P f t = (L, code)) (hN : L.length = N) :
    Calls Try.prog 24 #[.agg #[.slice A n c], .int .i64 f, .int .i64 t] w fun e w' => ∃ A2 c2 T, e = .returned (.tuple #[.agg #[.slice A2 N c2], .int .i64 code]) ∧ ptsOf T = L ∧ InkOwn w' w.heap.size w'.heap.size (.slice A2 N c2) T ∧ Below w.heap.size w w' := by
  subst hP
  have HV := validInk_any A n c S ((w.alloc (.cells #[.slice A n c] 29)).alloc (.cells #[.slice none 0 0] 29)) ((h.alloc _).alloc _) hs hn
  have ho0 := Bk.new1 w (.cells #[.slice A n c] 29) #[.slice none 0 0] 29
  have HA0 := Lib.hid ((h.alloc (.cells #[.slice A n c] 29)).alloc (.cells #[.slice none 0 0] 29))
  have LA := Lib.hid h.len
  have PL : Hid ((ptsOf S).length = n) := by rw [Hid, ptsOf_len]; exact h.len
  clear h
  have ways : inkB (ptsOf S) = false ∨ (inkB (ptsOf S) = true ∧ inB f 0 t = false) ∨ (inkB (ptsOf S) = true ∧ inB f 0 t = true ∧ ¬ t ≤ (n : Int)) ∨ (inkB (ptsOf S) = true ∧ ∃ fN tN : Nat, f = fN ∧ t = tN ∧ inB (fN : Int) 0 (tN : Int) = true ∧ fN ≤ tN ∧ tN ≤ n) := by
    cases h1 : inkB (ptsOf S)
    · exact .inl rfl
    · cases h2 : inB f 0 t
      · exact .inr (.inl ⟨rfl, rfl⟩)
      · by_cases h3 : t ≤ (n : Int)
        · obtain ⟨h4, h5⟩ := inB_true h2
          have e1 : f = (f.toNat : Int) := by omega
          have e2 : t = (t.toNat : Int) := by omega
          exact .inr (.inr (.inr ⟨rfl, f.toNat, t.toNat, e1, e2, by rw [← e1, ← e2]; exact h2, by omega, by omega⟩))
        · exact .inr (.inr (.inl ⟨rfl, rfl, h3⟩))
  have start : Hid (∀ w2, Below ((w.alloc (.cells #[.slice A n c] 29)).alloc (.cells #[.slice none 0 0] 29)).heap.size ((w.alloc (.cells #[.slice A n c] 29)).alloc (.cells #[.slice none 0 0] 29)) w2 → w.heap.size < w2.heap.size ∧ w.heap.size + 1 < w2.heap.size ∧ w2.cell? ⟨w.heap.size, 0, none⟩ = some (.slice A n c) ∧ Bk w2 (w.heap.size + 1) 29 #[.slice none 0 0] ∧ Below w.heap.size w w2) := fun w2 hb => by
    have hz := hb.size
    simp only [World.size_alloc] at hz
    exact ⟨by omega, by omega, (hb.cell (p := ⟨w.heap.size, 0, none⟩) (by simp; omega)).trans (by go_simp), ho0.below hb (by simp), Below.next (by go_grown) hb⟩
  clear ho0
  rcases ways with h1 | ⟨h1, h2⟩ | ⟨h1, h2, h3⟩ | ⟨h1, fN, tN, rfl, rfl, h2, h3, h4⟩
  · rw [h1] at HV
    rw [cutR_no h1] at hR
    injection hR with e1 e2
    subst e1; subst e2
    obtain rfl : N = 0 := hN.symm
    clear h1 hN
    go_enter Try.func24, Try.ntmps24
    go_wp2_with fail
    refine HV.mono ?_
    rintro e w2 ⟨rfl, hb⟩
    clear HV
    obtain ⟨hws, hws1, hcs, ho, hT⟩ := start.out w2 hb
    obtain ⟨o0, p0⟩ := bk1 ho
    clear hb
    go_wp2_with fail
    refine bodyPost_ret (by simp [results, Try.results24, go_sem, *]; try rfl) rfl ?_
    exact ⟨none, 0, [], rfl, rfl, InkOwn.nil _ _ _, by go_grown⟩
  · rw [h1] at HV
    rw [cutR_out h1 h2] at hR
    injection hR with e1 e2
    subst e1; subst e2
    obtain rfl : N = 0 := hN.symm
    have E1 := Lib.hid h2
    clear h1 h2 hN
    go_enter Try.func24, Try.ntmps24
    go_wp2_with fail
    refine HV.mono ?_
    rintro e w2 ⟨rfl, hb⟩
    clear HV
    obtain ⟨hws, hws1, hcs, ho, hT⟩ := start.out w2 hb
    obtain ⟨o0, p0⟩ := bk1 ho
    clear hb
    go_wp2_with (go_at_call 56; refine (within_is E1 _).mono ?_; rintro e w' ⟨rfl, rfl⟩)
    refine bodyPost_ret (by simp [results, Try.results24, go_sem, *]; try rfl) rfl ?_
    exact ⟨none, 0, [], rfl, rfl, InkOwn.nil _ _ _, by go_grown⟩
  · rw [h1] at HV
    rw [cutR_far h1 h2 (by rw [PL.out]; exact h3)] at hR
    injection hR with e1 e2
    subst e1; subst e2
    obtain rfl : N = 0 := hN.symm
    have E1 := Lib.hid h2
    clear h1 h2 hN
    have h3t : decide ((n : Int) < t) = true := decide_eq_true (by omega)
    have h3' : (n : Int) < t := by omega
    go_enter Try.func24, Try.ntmps24
    go_wp2_with fail
    refine HV.mono ?_
    rintro e w2 ⟨rfl, hb⟩
    clear HV
    obtain ⟨hws, hws1, hcs, ho, hT⟩ := start.out w2 hb
    obtain ⟨o0, p0⟩ := bk1 ho
    clear hb
    go_wp2_with (go_at_call 56; refine (within_is E1 _).mono ?_; rintro e w' ⟨rfl, rfl⟩)
    refine bodyPost_ret (by simp [results, Try.results24, go_sem, *]; try rfl) rfl ?_
    exact ⟨none, 0, [], rfl, rfl, InkOwn.nil _ _ _, by go_grown⟩
  · have hall := (inkB_true h1).2
    rw [h1] at HV
    rw [cutR_ok h1 h2 (by rw [PL.out]; exact h4)] at hR
    injection hR with e1 e2
    subst e2
    have hNN : tN - fN = N := by
      rw [← hN, ← e1, List.length_take, List.length_drop, PL.out]; omega
    have HE : Hid (ptsOf ((S.drop fN).take (tN - fN)) = L) := by rw [Hid, ptsOf_sub]; exact e1
    have E1 := Lib.hid h2
    have hpos : ∀ s ∈ S, 0 < s.l.length ∧ s.l.length ≤ 1048576 := fun s hs2 => by
      obtain ⟨k, hk, rfl⟩ := List.mem_iff_getElem.1 hs2
      exact ⟨(strB_true (hall k hk)).1, hs _ hs2⟩
    obtain ⟨A', c', hrun, hA'⟩ := run_sub (A := A) h3 h4 hnc
    have HA1 := Lib.hid hA'
    rw [hNN] at hrun
    have hNb : N ≤ 1048576 := by omega
    have HNN := Lib.hid hNN
    clear h1 h2 hN e1 hall hA' hNN
    have h4t : ¬ (n : Int) < (tN : Int) := by omega
    have h4d : decide (n < tN) = false := decide_eq_false (by omega)
    go_enter Try.func24, Try.ntmps24
    go_wp2_with fail
    refine HV.mono ?_
    rintro e w2 ⟨rfl, hb⟩
    clear HV
    obtain ⟨hws, hws1, hcs, ho, hT⟩ := start.out w2 hb
    have HA2 := Lib.hid (HA0.out.below hb)
    obtain ⟨o0, p0⟩ := bk1 ho
    clear hb
    go_wp2_with (first | (go_at_call 56; refine (within_is E1 _).mono ?_; rintro e w' ⟨rfl, rfl⟩) | fail)
    all_goals skip
    refine (copyInk_any A' N c' ((S.drop fN).take (tN - fN)) _ (by rw [← HNN.out]; exact HA2.out.sub h3 h4 HA1.out) (fun s hs2 => (hpos s (List.mem_of_mem_drop (List.mem_of_mem_take hs2))).2) hNb).mono ?_
    rintro e w4 ⟨A2, c2, T, rfl, hp, ho4, hb4⟩
    have ho5 := ho.next hb4
    have hT4 := Below.next hT hb4
    obtain ⟨o5, p5⟩ := bk1 ho5
    have hg5 := ho5.lt
    have hz4 := hb4.size
    (try simp only [World.size_alloc] at hz4)
    have HP := Lib.hid hp
    have HO := Lib.hid ho4
    clear hp ho4 hb4 o0 p0
    go_wp2_with fail
    refine bodyPost_ret (by simp [results, Try.results24, go_sem, *]; try rfl) rfl ?_
    refine ⟨A2, c2, T, rfl, by rw [HP.out, HE.out], ?_, by go_grown⟩
    have hsz : (w4.setCell ⟨w.heap.size + 1, 0, none⟩ (.slice A2 N c2)).heap.size = w4.heap.size := by simp [World.setCell]
    rw [hsz]
    exact (HO.out.keep fun j hj _ _ => Below.heap_setCell _ _ _ _ (by (try simp only [World.size_alloc] at hj); simp only [ne_eq]; omega)).low (by (try simp only [World.size_alloc]); omega)

set_option maxHeartbeats 8000000 in
theorem sCutInk (A : Option Addr) (n c N : Nat) (code f t : Int) (S : List St) (P L : List (List Pt)) (w : World) (h : InkRd w A n S) (hP : ptsOf S = P) (hs : ∀ s ∈ S, s.l.length ≤ 1048576) (hn : n ≤ 1048576) (hnc : n ≤ c) (hc : c ≤ 9223372036854775807) (hR : cutR P f t = (L, code)) (hN : L.length = N) :
    Calls Try.prog 23 #[.agg #[.slice A n c], .int .i64 f, .int .i64 t] w fun e w' => ∃ A2 c2 T, e = .returned (.tuple #[.agg #[.slice A2 N c2], .int .i64 code]) ∧ ptsOf T = L ∧ InkOwn w' w.heap.size w'.heap.size (.slice A2 N c2) T ∧ Below w.heap.size w w' := by
  subst hP
  have HV := l02Ok_any w.heap.size 0 A n c S ((w.alloc (.cells #[.slice A n c] 29)).alloc (.cells #[.slice none 0 0] 29)) (by go_simp) ((h.alloc _).alloc _) hs hn
  have ho0 := Bk.new1 w (.cells #[.slice A n c] 29) #[.slice none 0 0] 29
  have HA0 := Lib.hid ((h.alloc (.cells #[.slice A n c] 29)).alloc (.cells #[.slice none 0 0] 29))
  have LA := Lib.hid h.len
  have PL : Hid ((ptsOf S).length = n) := by rw [Hid, ptsOf_len]; exact h.len
  clear h
  have ways : inkB (ptsOf S) = false ∨ (inkB (ptsOf S) = true ∧ inB f 0 t = false) ∨ (inkB (ptsOf S) = true ∧ inB f 0 t = true ∧ ¬ t ≤ (n : Int)) ∨ (inkB (ptsOf S) = true ∧ ∃ fN tN : Nat, f = fN ∧ t = tN ∧ inB (fN : Int) 0 (tN : Int) = true ∧ fN ≤ tN ∧ tN ≤ n) := by
    cases h1 : inkB (ptsOf S)
    · exact .inl rfl
    · cases h2 : inB f 0 t
      · exact .inr (.inl ⟨rfl, rfl⟩)
      · by_cases h3 : t ≤ (n : Int)
        · obtain ⟨h4, h5⟩ := inB_true h2
          have e1 : f = (f.toNat : Int) := by omega
          have e2 : t = (t.toNat : Int) := by omega
          exact .inr (.inr (.inr ⟨rfl, f.toNat, t.toNat, e1, e2, by rw [← e1, ← e2]; exact h2, by omega, by omega⟩))
        · exact .inr (.inr (.inl ⟨rfl, rfl, h3⟩))
  have start : Hid (∀ w2, Below ((w.alloc (.cells #[.slice A n c] 29)).alloc (.cells #[.slice none 0 0] 29)).heap.size ((w.alloc (.cells #[.slice A n c] 29)).alloc (.cells #[.slice none 0 0] 29)) w2 → w.heap.size < w2.heap.size ∧ w.heap.size + 1 < w2.heap.size ∧ w2.cell? ⟨w.heap.size, 0, none⟩ = some (.slice A n c) ∧ Bk w2 (w.heap.size + 1) 29 #[.slice none 0 0] ∧ Below w.heap.size w w2) := fun w2 hb => by
    have hz := hb.size
    simp only [World.size_alloc] at hz
    exact ⟨by omega, by omega, (hb.cell (p := ⟨w.heap.size, 0, none⟩) (by simp; omega)).trans (by go_simp), ho0.below hb (by simp), Below.next (by go_grown) hb⟩
  clear ho0
  rcases ways with h1 | ⟨h1, h2⟩ | ⟨h1, h2, h3⟩ | ⟨h1, fN, tN, rfl, rfl, h2, h3, h4⟩
  · rw [h1] at HV
    rw [cutR_no h1] at hR
    injection hR with e1 e2
    subst e1; subst e2
    obtain rfl : N = 0 := hN.symm
    clear h1 hN
    go_enter Try.func23, Try.ntmps23
    go_wp2_with fail
    refine HV.mono ?_
    rintro e w2 ⟨rfl, hb⟩
    clear HV
    obtain ⟨hws, hws1, hcs, ho, hT⟩ := start.out w2 hb
    obtain ⟨o0, p0⟩ := bk1 ho
    clear hb
    go_wp2_with fail
    refine bodyPost_ret (by simp [results, Try.results23, go_sem, *]; try rfl) rfl ?_
    exact ⟨none, 0, [], rfl, rfl, InkOwn.nil _ _ _, by go_grown⟩
  · rw [h1] at HV
    rw [cutR_out h1 h2] at hR
    injection hR with e1 e2
    subst e1; subst e2
    obtain rfl : N = 0 := hN.symm
    have E1 := Lib.hid h2
    clear h1 h2 hN
    go_enter Try.func23, Try.ntmps23
    go_wp2_with fail
    refine HV.mono ?_
    rintro e w2 ⟨rfl, hb⟩
    clear HV
    obtain ⟨hws, hws1, hcs, ho, hT⟩ := start.out w2 hb
    obtain ⟨o0, p0⟩ := bk1 ho
    clear hb
    go_wp2_with (go_at_call 54; refine (l00In_is E1 _).mono ?_; rintro e w' ⟨rfl, rfl⟩)
    refine bodyPost_ret (by simp [results, Try.results23, go_sem, *]; try rfl) rfl ?_
    exact ⟨none, 0, [], rfl, rfl, InkOwn.nil _ _ _, by go_grown⟩
  · rw [h1] at HV
    rw [cutR_far h1 h2 (by rw [PL.out]; exact h3)] at hR
    injection hR with e1 e2
    subst e1; subst e2
    obtain rfl : N = 0 := hN.symm
    have E1 := Lib.hid h2
    clear h1 h2 hN
    have h3t : decide ((n : Int) < t) = true := decide_eq_true (by omega)
    have h3' : (n : Int) < t := by omega
    go_enter Try.func23, Try.ntmps23
    go_wp2_with fail
    refine HV.mono ?_
    rintro e w2 ⟨rfl, hb⟩
    clear HV
    obtain ⟨hws, hws1, hcs, ho, hT⟩ := start.out w2 hb
    obtain ⟨o0, p0⟩ := bk1 ho
    clear hb
    go_wp2_with (go_at_call 54; refine (l00In_is E1 _).mono ?_; rintro e w' ⟨rfl, rfl⟩)
    refine bodyPost_ret (by simp [results, Try.results23, go_sem, *]; try rfl) rfl ?_
    exact ⟨none, 0, [], rfl, rfl, InkOwn.nil _ _ _, by go_grown⟩
  · have hall := (inkB_true h1).2
    rw [h1] at HV
    rw [cutR_ok h1 h2 (by rw [PL.out]; exact h4)] at hR
    injection hR with e1 e2
    subst e2
    have hNN : tN - fN = N := by
      rw [← hN, ← e1, List.length_take, List.length_drop, PL.out]; omega
    have HE : Hid (ptsOf ((S.drop fN).take (tN - fN)) = L) := by rw [Hid, ptsOf_sub]; exact e1
    have E1 := Lib.hid h2
    have hpos : ∀ s ∈ S, 0 < s.l.length ∧ s.l.length ≤ 1048576 := fun s hs2 => by
      obtain ⟨k, hk, rfl⟩ := List.mem_iff_getElem.1 hs2
      exact ⟨(strB_true (hall k hk)).1, hs _ hs2⟩
    obtain ⟨A', c', hrun, hA'⟩ := run_sub (A := A) h3 h4 hnc
    have HA1 := Lib.hid hA'
    rw [hNN] at hrun
    have hNb : N ≤ 1048576 := by omega
    have HNN := Lib.hid hNN
    clear h1 h2 hN e1 hall hA' hNN
    have h4t : ¬ (n : Int) < (tN : Int) := by omega
    have h4d : decide (n < tN) = false := decide_eq_false (by omega)
    go_enter Try.func23, Try.ntmps23
    go_wp2_with fail
    refine HV.mono ?_
    rintro e w2 ⟨rfl, hb⟩
    clear HV
    obtain ⟨hws, hws1, hcs, ho, hT⟩ := start.out w2 hb
    have HA2 := Lib.hid (HA0.out.below hb)
    obtain ⟨o0, p0⟩ := bk1 ho
    clear hb
    go_wp2_with (first | (go_at_call 54; refine (l00In_is E1 _).mono ?_; rintro e w' ⟨rfl, rfl⟩) | fail)
    all_goals skip
    refine (l02Own_any w2.heap.size 0 A' N c' ((S.drop fN).take (tN - fN)) _ (by go_simp) (by rw [← HNN.out]; exact (HA2.out.sub h3 h4 HA1.out).alloc _) (fun s hs2 => hpos s (List.mem_of_mem_drop (List.mem_of_mem_take hs2))) hNb).mono ?_
    rintro e w4 ⟨A2, c2, T, rfl, hp, ho4, hb4⟩
    have ho5 := (ho.alloc (.cells #[.slice A' N c'] 29)).next hb4
    have hT4 := Below.next (hT.alloc hT.size _) hb4
    obtain ⟨o5, p5⟩ := bk1 ho5
    have hg5 := ho5.lt
    have hz4 := hb4.size
    (try simp only [World.size_alloc] at hz4)
    have HP := Lib.hid hp
    have HO := Lib.hid ho4
    clear hp ho4 hb4 o0 p0
    go_wp2_with fail
    refine bodyPost_ret (by simp [results, Try.results23, go_sem, *]; try rfl) rfl ?_
    refine ⟨A2, c2, T, rfl, by rw [HP.out, HE.out], ?_, by go_grown⟩
    have hsz : (w4.setCell ⟨w.heap.size + 1, 0, none⟩ (.slice A2 N c2)).heap.size = w4.heap.size := by simp [World.setCell]
    rw [hsz]
    exact (HO.out.keep fun j hj _ _ => Below.heap_setCell _ _ _ _ (by (try simp only [World.size_alloc] at hj); simp only [ne_eq]; omega)).low (by (try simp only [World.size_alloc]); omega)
end Go.Proofs.Ytnmmnikoogjhoaa
