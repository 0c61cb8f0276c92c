/-
  The ink of a file, as the program makes it: refusals.
-/
import Derived.Test.YtigingjpdlfanaaIofP
namespace Go.Proofs.Ytigingjpdlfanaa
set_option linter.unusedSimpArgs false
set_option linter.unusedVariables false
set_option maxRecDepth 20000
open Go.RowKit
open Go.ChangeShapes Go.WideShapes Go.Deep Go.Joins

set_option maxHeartbeats 2000000 in
theorem iIof_bad (f : Fl) (p : FlP) (L : List (List Pt)) (N : Nat) (code : Int) (hok : Is false (FileOk p)) (x y t : Int) (hR : Hid (iofR false p x y t = (L, code))) (w : World) (h : FileRd w f) (hp : filePl f = p) (hs : PlSz p) (ht : PlTx p) (hN : Hid (L.length = N)) :
    Calls Try.prog 43 #[.agg #[.slice f.ch.A f.ch.l.length f.ch.c, .slice f.st.A f.st.l.length f.st.c, .slice f.no.A f.no.l.length f.no.c]] w fun e w' => ∃ A2 c2 T, e = .returned (.tuple #[.agg #[.slice A2 N c2], .int .i64 code]) ∧ ptsOf T = L ∧ InkOwn w' w.heap.size w'.heap.size (.slice A2 N c2) T ∧ Below w.heap.size w w' := by
  have HP := Lib.hid hp
  have hpc : Hid (f.ch.l = p.ch) := congrArg FlP.ch hp
  have hps : Hid (f.st.l.map rowsK.pl = p.st) := congrArg FlP.st hp
  have HK : Hid (Bk ((w.alloc (.cells #[.slice f.ch.A f.ch.l.length f.ch.c, .slice f.st.A f.st.l.length f.st.c, .slice f.no.A f.no.l.length f.no.c] 30)).alloc (.cells #[.slice none 0 0] 35)) w.heap.size 30 #[.slice f.ch.A f.ch.l.length f.ch.c, .slice f.st.A f.st.l.length f.st.c, .slice f.no.A f.no.l.length f.no.c]) := (Bk.new w _ _).alloc _
  have HR0 : Hid (Bk ((w.alloc (.cells #[.slice f.ch.A f.ch.l.length f.ch.c, .slice f.st.A f.st.l.length f.st.c, .slice f.no.A f.no.l.length f.no.c] 30)).alloc (.cells #[.slice none 0 0] 35)) (w.heap.size + 1) 35 #[.slice none 0 0]) := Bk.new1 w _ _ _
  have HA := Lib.hid ((h.alloc (.cells #[.slice f.ch.A f.ch.l.length f.ch.c, .slice f.st.A f.st.l.length f.st.c, .slice f.no.A f.no.l.length f.no.c] 30)).alloc (.cells #[.slice none 0 0] 35))
  have H0 := Lib.hid h
  have hnc : f.ch.l.length ≤ 1048576 := by rw [hpc.out]; exact hs.ch
  clear h
  have HV := hok
  have h2 := hR.out
  rw [iofR_bad] at h2
  obtain ⟨e1, e2⟩ : [] = L ∧ (1 : Int) = code := by injection h2 with e1 e2; exact ⟨e1, e2⟩
  subst e1; subst e2
  obtain rfl : 0 = N := hN.out
  clear h2
  go_enter Try.func43, Try.ntmps43
  go_wp2_with fail
  refine (iValid_L f p false _ HA.out hp hs ht HV).mono ?_
  rintro e w2 ⟨rfl, hb2⟩
  have hT2 : Below w.heap.size w w2 := Below.next (by go_grown) hb2
  have HK2 := Lib.hid (HK.out.next hb2)
  have HR2 := Lib.hid (HR0.out.next hb2)
  have HA2 := Lib.hid (HA.out.below hb2)
  have RCH : Hid (Rd w2 f.ch.A f.ch.l.length 4 (rowOf chC f.ch.l)) := HA2.out.ch.1
  have RCHd : Hid (Rd w2.drew f.ch.A f.ch.l.length 4 (rowOf chC f.ch.l)) := HA2.out.ch.1
  have ql := HK2.out.lt
  have q0 : w2.cell? ⟨w.heap.size, 0, none⟩ = some (.slice f.ch.A f.ch.l.length f.ch.c) := HK2.out.cell 0
  have Q0 := Lib.hid q0
  clear hb2
  obtain ⟨er, fr⟩ := bk1 HR2.out
  have hgr := HR2.out.lt
  go_wp2_with fail
  refine bodyPost_ret (by simp [results, Try.results43, go_sem, *]; try rfl) rfl ?_
  exact ⟨none, 0, [], rfl, rfl, InkOwn.nil _ _ _, by have hT9 := hT2; go_grown⟩
set_option maxHeartbeats 2000000 in
theorem iIof_none (f : Fl) (p : FlP) (L : List (List Pt)) (N : Nat) (code : Int) (hok : Is true (FileOk p)) (x y t : Int) (hx0 : Hid (idxZ p.ch ⟨#[120]⟩ = x)) (hy0 : Hid (idxZ p.ch ⟨#[121]⟩ = y)) (ht0 : Hid (idxZ p.ch ⟨#[116]⟩ = t)) (hno : ¬ (0 ≤ x ∧ 0 ≤ y ∧ 0 ≤ t)) (hR : Hid (iofR true p x y t = (L, code))) (w : World) (h : FileRd w f) (hp : filePl f = p) (hs : PlSz p) (ht : PlTx p) (hN : Hid (L.length = N)) :
    Calls Try.prog 43 #[.agg #[.slice f.ch.A f.ch.l.length f.ch.c, .slice f.st.A f.st.l.length f.st.c, .slice f.no.A f.no.l.length f.no.c]] w fun e w' => ∃ A2 c2 T, e = .returned (.tuple #[.agg #[.slice A2 N c2], .int .i64 code]) ∧ ptsOf T = L ∧ InkOwn w' w.heap.size w'.heap.size (.slice A2 N c2) T ∧ Below w.heap.size w w' := by
  have HP := Lib.hid hp
  have hpc : Hid (f.ch.l = p.ch) := congrArg FlP.ch hp
  have hps : Hid (f.st.l.map rowsK.pl = p.st) := congrArg FlP.st hp
  have HK : Hid (Bk ((w.alloc (.cells #[.slice f.ch.A f.ch.l.length f.ch.c, .slice f.st.A f.st.l.length f.st.c, .slice f.no.A f.no.l.length f.no.c] 30)).alloc (.cells #[.slice none 0 0] 35)) w.heap.size 30 #[.slice f.ch.A f.ch.l.length f.ch.c, .slice f.st.A f.st.l.length f.st.c, .slice f.no.A f.no.l.length f.no.c]) := (Bk.new w _ _).alloc _
  have HR0 : Hid (Bk ((w.alloc (.cells #[.slice f.ch.A f.ch.l.length f.ch.c, .slice f.st.A f.st.l.length f.st.c, .slice f.no.A f.no.l.length f.no.c] 30)).alloc (.cells #[.slice none 0 0] 35)) (w.heap.size + 1) 35 #[.slice none 0 0]) := Bk.new1 w _ _ _
  have HA := Lib.hid ((h.alloc (.cells #[.slice f.ch.A f.ch.l.length f.ch.c, .slice f.st.A f.st.l.length f.st.c, .slice f.no.A f.no.l.length f.no.c] 30)).alloc (.cells #[.slice none 0 0] 35))
  have H0 := Lib.hid h
  have hnc : f.ch.l.length ≤ 1048576 := by rw [hpc.out]; exact hs.ch
  clear h
  have HV := hok
  have h2 := hR.out
  rw [iofR_none hno] at h2
  obtain ⟨e1, e2⟩ : [] = L ∧ (3 : Int) = code := by injection h2 with e1 e2; exact ⟨e1, e2⟩
  subst e1; subst e2
  obtain rfl : 0 = N := hN.out
  clear h2
  have Hx : Hid (idxZ f.ch.l ⟨#[120]⟩ = x) := by rw [Hid, hpc.out]; exact hx0.out
  have Hy : Hid (idxZ f.ch.l ⟨#[121]⟩ = y) := by rw [Hid, hpc.out]; exact hy0.out
  have Ht : Hid (idxZ f.ch.l ⟨#[116]⟩ = t) := by rw [Hid, hpc.out]; exact ht0.out
  cases g1 : decide (x < 0)
  · cases g2 : decide (y < 0)
    · cases g3 : decide (t < 0)
      · exfalso
        simp at g1 g2 g3
        exact hno ⟨g1, g2, g3⟩
      · clear hno
        go_enter Try.func43, Try.ntmps43
        go_wp2_with fail
        refine (iValid_L f p true _ HA.out hp hs ht HV).mono ?_
        rintro e w2 ⟨rfl, hb2⟩
        have hT2 : Below w.heap.size w w2 := Below.next (by go_grown) hb2
        have HK2 := Lib.hid (HK.out.next hb2)
        have HR2 := Lib.hid (HR0.out.next hb2)
        have HA2 := Lib.hid (HA.out.below hb2)
        have RCH : Hid (Rd w2 f.ch.A f.ch.l.length 4 (rowOf chC f.ch.l)) := HA2.out.ch.1
        have RCHd : Hid (Rd w2.drew f.ch.A f.ch.l.length 4 (rowOf chC f.ch.l)) := HA2.out.ch.1
        have ql := HK2.out.lt
        have q0 : w2.cell? ⟨w.heap.size, 0, none⟩ = some (.slice f.ch.A f.ch.l.length f.ch.c) := HK2.out.cell 0
        have Q0 := Lib.hid q0
        clear hb2
        go_wp2_with fail
        refine wp_region_held_drew (S := (fun w' => (∀ kb ko, kb < w2.heap.size → w'.cell? ⟨kb, ko, none⟩ = w2.cell? ⟨kb, ko, none⟩) ∧ w2.heap.size ≤ w'.heap.size ∧ Below w2.heap.size w2 w')) (by kernel_rfl) ?_ (fun hHeld => ?_)
        · (try dsimp only); (first | exact SB.mk hkB | exact SB.mk ((Below.refl _ _).drew) | (go_split_ands; refine SB.mk (Below.drew ?_); assumption) | (refine SB.mk ?_; go_grown; done) | (go_split_ands; refine SB.mk ?_; go_grown; done))
        first | (refine take_on (i := 0) (v := ?_) rfl (by kernel_rfl) (by kernel_rfl) (by kernel_rfl) (fun _ _ _ h => h) rfl ?_ (by assumption) ?_; rotate_left; · (intro w' hSw; (try dsimp only at hSw); go_simp; (try with_reducible rfl))) | (refine take_off (i := 0) rfl (by kernel_rfl) (by kernel_rfl) (by kernel_rfl) (fun _ _ _ h => h) rfl (by assumption) ?_)
        (try simp only [Act.put, List.setIfInBounds_toArray, List.set_cons_zero, List.set_cons_succ])
        first | (refine take_on (i := 1) (v := ?_) rfl (by kernel_rfl) (by kernel_rfl) (by kernel_rfl) (fun _ _ _ h => h) rfl ?_ (by assumption) ?_; rotate_left; · (intro w' hSw; (try dsimp only at hSw); go_simp; (try with_reducible rfl))) | (refine take_off (i := 1) rfl (by kernel_rfl) (by kernel_rfl) (by kernel_rfl) (fun _ _ _ h => h) rfl (by assumption) ?_)
        (try simp only [Act.put, List.setIfInBounds_toArray, List.set_cons_zero, List.set_cons_succ])
        first | (refine take_on (i := 3) (v := ?_) rfl (by kernel_rfl) (by kernel_rfl) (by kernel_rfl) (fun _ _ _ h => h) rfl ?_ (by assumption) ?_; rotate_left; · (intro w' hSw; (try dsimp only at hSw); go_simp; (try with_reducible rfl))) | (refine take_off (i := 3) rfl (by kernel_rfl) (by kernel_rfl) (by kernel_rfl) (fun _ _ _ h => h) rfl (by assumption) ?_)
        (try simp only [Act.put, List.setIfInBounds_toArray, List.set_cons_zero, List.set_cons_succ])
        first | (refine take_on (i := 4) (v := ?_) rfl (by kernel_rfl) (by kernel_rfl) (by kernel_rfl) (fun _ _ _ h => h) rfl ?_ (by assumption) ?_; rotate_left; · (intro w' hSw; (try dsimp only at hSw); go_simp; (try with_reducible rfl))) | (refine take_off (i := 4) rfl (by kernel_rfl) (by kernel_rfl) (by kernel_rfl) (fun _ _ _ h => h) rfl (by assumption) ?_)
        (try simp only [Act.put, List.setIfInBounds_toArray, List.set_cons_zero, List.set_cons_succ])
        first | (refine take_on (i := 6) (v := ?_) rfl (by kernel_rfl) (by kernel_rfl) (by kernel_rfl) (fun _ _ _ h => h) rfl ?_ (by assumption) ?_; rotate_left; · (intro w' hSw; (try dsimp only at hSw); go_simp; (try with_reducible rfl))) | (refine take_off (i := 6) rfl (by kernel_rfl) (by kernel_rfl) (by kernel_rfl) (fun _ _ _ h => h) rfl (by assumption) ?_)
        (try simp only [Act.put, List.setIfInBounds_toArray, List.set_cons_zero, List.set_cons_succ])
        first | (refine take_on (i := 7) (v := ?_) rfl (by kernel_rfl) (by kernel_rfl) (by kernel_rfl) (fun _ _ _ h => h) rfl ?_ (by assumption) ?_; rotate_left; · (intro w' hSw; (try dsimp only at hSw); go_simp; (try with_reducible rfl))) | (refine take_off (i := 7) rfl (by kernel_rfl) (by kernel_rfl) (by kernel_rfl) (fun _ _ _ h => h) rfl (by assumption) ?_)
        (try simp only [Act.put, List.setIfInBounds_toArray, List.set_cons_zero, List.set_cons_succ])
        refine wpAnyH_ready (rs := [2]) (by kernel_rfl) (by simp) ?_
        refine AllReadyH.cons rfl (fun K hK => ?_) AllReadyH.nil
        rw [if_pos (by rfl)]
        go_simp
        first | (go_at_call 75; (with_reducible refine (indexOf_any f.ch.A f.ch.l.length f.ch.c f.ch.l ⟨#[120]⟩ x _ RCHd.out rfl hnc Hx).mono ?_); rintro e wA ⟨rfl, hb⟩; have hkB : Below w2.heap.size w2 wA := Below.next (by go_grown) hb; clear hb) | (go_at_call 75; (with_reducible refine (indexOf_any f.ch.A f.ch.l.length f.ch.c f.ch.l ⟨#[121]⟩ y _ (RCH.out.below hkB) rfl hnc Hy).mono ?_); rintro e wB ⟨rfl, hb⟩; have hkB' : Below w2.heap.size w2 wB := Below.next hkB hb; clear hb hkB; have hkB := hkB'; clear hkB') | (go_at_call 75; (with_reducible refine (indexOf_any f.ch.A f.ch.l.length f.ch.c f.ch.l ⟨#[116]⟩ t _ (RCH.out.below hkB) rfl hnc Ht).mono ?_); rintro e wC ⟨rfl, hb⟩; have hkB' : Below w2.heap.size w2 wC := Below.next hkB hb; clear hb hkB; have hkB := hkB'; clear hkB')
        refine hK.out _ _ ?_ (fun hHeld2 => ?_)
        · (try dsimp only); (first | exact SB.mk hkB | exact SB.mk ((Below.refl _ _).drew) | (go_split_ands; refine SB.mk (Below.drew ?_); assumption) | (refine SB.mk ?_; go_grown; done) | (go_split_ands; refine SB.mk ?_; go_grown; done))
        clear hK K hHeld; have hHeld := hHeld2; clear hHeld2; (try simp only [Act.put, List.setIfInBounds_toArray, List.set_cons_zero, List.set_cons_succ])
        refine wpAnyH_ready (rs := [5]) (by kernel_rfl) (by simp) ?_
        refine AllReadyH.cons rfl (fun K hK => ?_) AllReadyH.nil
        rw [if_pos (by rfl)]
        go_simp
        first | (go_at_call 75; (with_reducible refine (indexOf_any f.ch.A f.ch.l.length f.ch.c f.ch.l ⟨#[120]⟩ x _ RCHd.out rfl hnc Hx).mono ?_); rintro e wA ⟨rfl, hb⟩; have hkB : Below w2.heap.size w2 wA := Below.next (by go_grown) hb; clear hb) | (go_at_call 75; (with_reducible refine (indexOf_any f.ch.A f.ch.l.length f.ch.c f.ch.l ⟨#[121]⟩ y _ (RCH.out.below hkB) rfl hnc Hy).mono ?_); rintro e wB ⟨rfl, hb⟩; have hkB' : Below w2.heap.size w2 wB := Below.next hkB hb; clear hb hkB; have hkB := hkB'; clear hkB') | (go_at_call 75; (with_reducible refine (indexOf_any f.ch.A f.ch.l.length f.ch.c f.ch.l ⟨#[116]⟩ t _ (RCH.out.below hkB) rfl hnc Ht).mono ?_); rintro e wC ⟨rfl, hb⟩; have hkB' : Below w2.heap.size w2 wC := Below.next hkB hb; clear hb hkB; have hkB := hkB'; clear hkB')
        refine hK.out _ _ ?_ (fun hHeld2 => ?_)
        · (try dsimp only); (first | exact SB.mk hkB | exact SB.mk ((Below.refl _ _).drew) | (go_split_ands; refine SB.mk (Below.drew ?_); assumption) | (refine SB.mk ?_; go_grown; done) | (go_split_ands; refine SB.mk ?_; go_grown; done))
        clear hK K hHeld; have hHeld := hHeld2; clear hHeld2; (try simp only [Act.put, List.setIfInBounds_toArray, List.set_cons_zero, List.set_cons_succ])
        refine wpAnyH_ready (rs := [8]) (by kernel_rfl) (by simp) ?_
        refine AllReadyH.cons rfl (fun K hK => ?_) AllReadyH.nil
        rw [if_pos (by rfl)]
        go_simp
        first | (go_at_call 75; (with_reducible refine (indexOf_any f.ch.A f.ch.l.length f.ch.c f.ch.l ⟨#[120]⟩ x _ RCHd.out rfl hnc Hx).mono ?_); rintro e wA ⟨rfl, hb⟩; have hkB : Below w2.heap.size w2 wA := Below.next (by go_grown) hb; clear hb) | (go_at_call 75; (with_reducible refine (indexOf_any f.ch.A f.ch.l.length f.ch.c f.ch.l ⟨#[121]⟩ y _ (RCH.out.below hkB) rfl hnc Hy).mono ?_); rintro e wB ⟨rfl, hb⟩; have hkB' : Below w2.heap.size w2 wB := Below.next hkB hb; clear hb hkB; have hkB := hkB'; clear hkB') | (go_at_call 75; (with_reducible refine (indexOf_any f.ch.A f.ch.l.length f.ch.c f.ch.l ⟨#[116]⟩ t _ (RCH.out.below hkB) rfl hnc Ht).mono ?_); rintro e wC ⟨rfl, hb⟩; have hkB' : Below w2.heap.size w2 wC := Below.next hkB hb; clear hb hkB; have hkB := hkB'; clear hkB')
        refine hK.out _ _ ?_ (fun hHeld2 => ?_)
        · (try dsimp only); (first | exact SB.mk hkB | exact SB.mk ((Below.refl _ _).drew) | (go_split_ands; refine SB.mk (Below.drew ?_); assumption) | (refine SB.mk ?_; go_grown; done) | (go_split_ands; refine SB.mk ?_; go_grown; done))
        clear hK K hHeld; have hHeld := hHeld2; clear hHeld2; (try simp only [Act.put, List.setIfInBounds_toArray, List.set_cons_zero, List.set_cons_succ])
        first | (refine take_on (i := 9) (v := ?_) rfl (by kernel_rfl) (by kernel_rfl) (by kernel_rfl) (fun _ _ _ h => h) rfl ?_ (by assumption) ?_; rotate_left; · (intro w' hSw; (try dsimp only at hSw); go_simp; (try with_reducible rfl))) | (refine take_off (i := 9) rfl (by kernel_rfl) (by kernel_rfl) (by kernel_rfl) (fun _ _ _ h => h) rfl (by assumption) ?_)
        (try simp only [Act.put, List.setIfInBounds_toArray, List.set_cons_zero, List.set_cons_succ])
        first | (refine take_on (i := 10) (v := ?_) rfl (by kernel_rfl) (by kernel_rfl) (by kernel_rfl) (fun _ _ _ h => h) rfl ?_ (by assumption) ?_; rotate_left; · (intro w' hSw; (try dsimp only at hSw); go_simp; (try with_reducible rfl))) | (refine take_off (i := 10) rfl (by kernel_rfl) (by kernel_rfl) (by kernel_rfl) (fun _ _ _ h => h) rfl (by assumption) ?_)
        (try simp only [Act.put, List.setIfInBounds_toArray, List.set_cons_zero, List.set_cons_succ])
        first | (refine take_on (i := 11) (v := ?_) rfl (by kernel_rfl) (by kernel_rfl) (by kernel_rfl) (fun _ _ _ h => h) rfl ?_ (by assumption) ?_; rotate_left; · (intro w' hSw; (try dsimp only at hSw); go_simp; (try with_reducible rfl))) | (refine take_off (i := 11) rfl (by kernel_rfl) (by kernel_rfl) (by kernel_rfl) (fun _ _ _ h => h) rfl (by assumption) ?_)
        (try simp only [Act.put, List.setIfInBounds_toArray, List.set_cons_zero, List.set_cons_succ])
        refine wpAnyH_done (by kernel_rfl) ?_ _
        have hhB : Below w2.heap.size w2 wC := hHeld.2.2
        clear hHeld hkB
        obtain ⟨w3, rfl⟩ : ∃ x, x = wC := ⟨wC, rfl⟩
        have hT3 : Below w.heap.size w w3 := Below.next hT2 hhB
        have HK3 := Lib.hid (HK2.out.next hhB)
        have HR3 := Lib.hid (HR2.out.next hhB)
        clear q0 ql hhB
        have q0 : w3.cell? ⟨w.heap.size, 0, none⟩ = some (.slice f.ch.A f.ch.l.length f.ch.c) := HK3.out.cell 0
        have q1 : w3.cell? ⟨w.heap.size, 1, none⟩ = some (.slice f.st.A f.st.l.length f.st.c) := HK3.out.cell 1
        have ql := HK3.out.lt
        obtain ⟨er, fr⟩ := bk1 HR3.out
        have hgr := HR3.out.lt
        go_wp2_with fail
        refine bodyPost_ret (by simp [results, Try.results43, go_sem, *]; try rfl) rfl ?_
        exact ⟨none, 0, [], rfl, rfl, InkOwn.nil _ _ _, by have hT9 := hT3; go_grown⟩
    · clear hno
      go_enter Try.func43, Try.ntmps43
      go_wp2_with fail
      refine (iValid_L f p true _ HA.out hp hs ht HV).mono ?_
      rintro e w2 ⟨rfl, hb2⟩
      have hT2 : Below w.heap.size w w2 := Below.next (by go_grown) hb2
      have HK2 := Lib.hid (HK.out.next hb2)
      have HR2 := Lib.hid (HR0.out.next hb2)
      have HA2 := Lib.hid (HA.out.below hb2)
      have RCH : Hid (Rd w2 f.ch.A f.ch.l.length 4 (rowOf chC f.ch.l)) := HA2.out.ch.1
      have RCHd : Hid (Rd w2.drew f.ch.A f.ch.l.length 4 (rowOf chC f.ch.l)) := HA2.out.ch.1
      have ql := HK2.out.lt
      have q0 : w2.cell? ⟨w.heap.size, 0, none⟩ = some (.slice f.ch.A f.ch.l.length f.ch.c) := HK2.out.cell 0
      have Q0 := Lib.hid q0
      clear hb2
      go_wp2_with fail
      refine wp_region_held_drew (S := (fun w' => (∀ kb ko, kb < w2.heap.size → w'.cell? ⟨kb, ko, none⟩ = w2.cell? ⟨kb, ko, none⟩) ∧ w2.heap.size ≤ w'.heap.size ∧ Below w2.heap.size w2 w')) (by kernel_rfl) ?_ (fun hHeld => ?_)
      · (try dsimp only); (first | exact SB.mk hkB | exact SB.mk ((Below.refl _ _).drew) | (go_split_ands; refine SB.mk (Below.drew ?_); assumption) | (refine SB.mk ?_; go_grown; done) | (go_split_ands; refine SB.mk ?_; go_grown; done))
      first | (refine take_on (i := 0) (v := ?_) rfl (by kernel_rfl) (by kernel_rfl) (by kernel_rfl) (fun _ _ _ h => h) rfl ?_ (by assumption) ?_; rotate_left; · (intro w' hSw; (try dsimp only at hSw); go_simp; (try with_reducible rfl))) | (refine take_off (i := 0) rfl (by kernel_rfl) (by kernel_rfl) (by kernel_rfl) (fun _ _ _ h => h) rfl (by assumption) ?_)
      (try simp only [Act.put, List.setIfInBounds_toArray, List.set_cons_zero, List.set_cons_succ])
      first | (refine take_on (i := 1) (v := ?_) rfl (by kernel_rfl) (by kernel_rfl) (by kernel_rfl) (fun _ _ _ h => h) rfl ?_ (by assumption) ?_; rotate_left; · (intro w' hSw; (try dsimp only at hSw); go_simp; (try with_reducible rfl))) | (refine take_off (i := 1) rfl (by kernel_rfl) (by kernel_rfl) (by kernel_rfl) (fun _ _ _ h => h) rfl (by assumption) ?_)
      (try simp only [Act.put, List.setIfInBounds_toArray, List.set_cons_zero, List.set_cons_succ])
      first | (refine take_on (i := 3) (v := ?_) rfl (by kernel_rfl) (by kernel_rfl) (by kernel_rfl) (fun _ _ _ h => h) rfl ?_ (by assumption) ?_; rotate_left; · (intro w' hSw; (try dsimp only at hSw); go_simp; (try with_reducible rfl))) | (refine take_off (i := 3) rfl (by kernel_rfl) (by kernel_rfl) (by kernel_rfl) (fun _ _ _ h => h) rfl (by assumption) ?_)
      (try simp only [Act.put, List.setIfInBounds_toArray, List.set_cons_zero, List.set_cons_succ])
      first | (refine take_on (i := 4) (v := ?_) rfl (by kernel_rfl) (by kernel_rfl) (by kernel_rfl) (fun _ _ _ h => h) rfl ?_ (by assumption) ?_; rotate_left; · (intro w' hSw; (try dsimp only at hSw); go_simp; (try with_reducible rfl))) | (refine take_off (i := 4) rfl (by kernel_rfl) (by kernel_rfl) (by kernel_rfl) (fun _ _ _ h => h) rfl (by assumption) ?_)
      (try simp only [Act.put, List.setIfInBounds_toArray, List.set_cons_zero, List.set_cons_succ])
      first | (refine take_on (i := 6) (v := ?_) rfl (by kernel_rfl) (by kernel_rfl) (by kernel_rfl) (fun _ _ _ h => h) rfl ?_ (by assumption) ?_; rotate_left; · (intro w' hSw; (try dsimp only at hSw); go_simp; (try with_reducible rfl))) | (refine take_off (i := 6) rfl (by kernel_rfl) (by kernel_rfl) (by kernel_rfl) (fun _ _ _ h => h) rfl (by assumption) ?_)
      (try simp only [Act.put, List.setIfInBounds_toArray, List.set_cons_zero, List.set_cons_succ])
      first | (refine take_on (i := 7) (v := ?_) rfl (by kernel_rfl) (by kernel_rfl) (by kernel_rfl) (fun _ _ _ h => h) rfl ?_ (by assumption) ?_; rotate_left; · (intro w' hSw; (try dsimp only at hSw); go_simp; (try with_reducible rfl))) | (refine take_off (i := 7) rfl (by kernel_rfl) (by kernel_rfl) (by kernel_rfl) (fun _ _ _ h => h) rfl (by assumption) ?_)
      (try simp only [Act.put, List.setIfInBounds_toArray, List.set_cons_zero, List.set_cons_succ])
      refine wpAnyH_ready (rs := [2]) (by kernel_rfl) (by simp) ?_
      refine AllReadyH.cons rfl (fun K hK => ?_) AllReadyH.nil
      rw [if_pos (by rfl)]
      go_simp
      first | (go_at_call 75; (with_reducible refine (indexOf_any f.ch.A f.ch.l.length f.ch.c f.ch.l ⟨#[120]⟩ x _ RCHd.out rfl hnc Hx).mono ?_); rintro e wA ⟨rfl, hb⟩; have hkB : Below w2.heap.size w2 wA := Below.next (by go_grown) hb; clear hb) | (go_at_call 75; (with_reducible refine (indexOf_any f.ch.A f.ch.l.length f.ch.c f.ch.l ⟨#[121]⟩ y _ (RCH.out.below hkB) rfl hnc Hy).mono ?_); rintro e wB ⟨rfl, hb⟩; have hkB' : Below w2.heap.size w2 wB := Below.next hkB hb; clear hb hkB; have hkB := hkB'; clear hkB') | (go_at_call 75; (with_reducible refine (indexOf_any f.ch.A f.ch.l.length f.ch.c f.ch.l ⟨#[116]⟩ t _ (RCH.out.below hkB) rfl hnc Ht).mono ?_); rintro e wC ⟨rfl, hb⟩; have hkB' : Below w2.heap.size w2 wC := Below.next hkB hb; clear hb hkB; have hkB := hkB'; clear hkB')
      refine hK.out _ _ ?_ (fun hHeld2 => ?_)
      · (try dsimp only); (first | exact SB.mk hkB | exact SB.mk ((Below.refl _ _).drew) | (go_split_ands; refine SB.mk (Below.drew ?_); assumption) | (refine SB.mk ?_; go_grown; done) | (go_split_ands; refine SB.mk ?_; go_grown; done))
      clear hK K hHeld; have hHeld := hHeld2; clear hHeld2; (try simp only [Act.put, List.setIfInBounds_toArray, List.set_cons_zero, List.set_cons_succ])
      refine wpAnyH_ready (rs := [5]) (by kernel_rfl) (by simp) ?_
      refine AllReadyH.cons rfl (fun K hK => ?_) AllReadyH.nil
      rw [if_pos (by rfl)]
      go_simp
      first | (go_at_call 75; (with_reducible refine (indexOf_any f.ch.A f.ch.l.length f.ch.c f.ch.l ⟨#[120]⟩ x _ RCHd.out rfl hnc Hx).mono ?_); rintro e wA ⟨rfl, hb⟩; have hkB : Below w2.heap.size w2 wA := Below.next (by go_grown) hb; clear hb) | (go_at_call 75; (with_reducible refine (indexOf_any f.ch.A f.ch.l.length f.ch.c f.ch.l ⟨#[121]⟩ y _ (RCH.out.below hkB) rfl hnc Hy).mono ?_); rintro e wB ⟨rfl, hb⟩; have hkB' : Below w2.heap.size w2 wB := Below.next hkB hb; clear hb hkB; have hkB := hkB'; clear hkB') | (go_at_call 75; (with_reducible refine (indexOf_any f.ch.A f.ch.l.length f.ch.c f.ch.l ⟨#[116]⟩ t _ (RCH.out.below hkB) rfl hnc Ht).mono ?_); rintro e wC ⟨rfl, hb⟩; have hkB' : Below w2.heap.size w2 wC := Below.next hkB hb; clear hb hkB; have hkB := hkB'; clear hkB')
      refine hK.out _ _ ?_ (fun hHeld2 => ?_)
      · (try dsimp only); (first | exact SB.mk hkB | exact SB.mk ((Below.refl _ _).drew) | (go_split_ands; refine SB.mk (Below.drew ?_); assumption) | (refine SB.mk ?_; go_grown; done) | (go_split_ands; refine SB.mk ?_; go_grown; done))
      clear hK K hHeld; have hHeld := hHeld2; clear hHeld2; (try simp only [Act.put, List.setIfInBounds_toArray, List.set_cons_zero, List.set_cons_succ])
      refine wpAnyH_ready (rs := [8]) (by kernel_rfl) (by simp) ?_
      refine AllReadyH.cons rfl (fun K hK => ?_) AllReadyH.nil
      rw [if_pos (by rfl)]
      go_simp
      first | (go_at_call 75; (with_reducible refine (indexOf_any f.ch.A f.ch.l.length f.ch.c f.ch.l ⟨#[120]⟩ x _ RCHd.out rfl hnc Hx).mono ?_); rintro e wA ⟨rfl, hb⟩; have hkB : Below w2.heap.size w2 wA := Below.next (by go_grown) hb; clear hb) | (go_at_call 75; (with_reducible refine (indexOf_any f.ch.A f.ch.l.length f.ch.c f.ch.l ⟨#[121]⟩ y _ (RCH.out.below hkB) rfl hnc Hy).mono ?_); rintro e wB ⟨rfl, hb⟩; have hkB' : Below w2.heap.size w2 wB := Below.next hkB hb; clear hb hkB; have hkB := hkB'; clear hkB') | (go_at_call 75; (with_reducible refine (indexOf_any f.ch.A f.ch.l.length f.ch.c f.ch.l ⟨#[116]⟩ t _ (RCH.out.below hkB) rfl hnc Ht).mono ?_); rintro e wC ⟨rfl, hb⟩; have hkB' : Below w2.heap.size w2 wC := Below.next hkB hb; clear hb hkB; have hkB := hkB'; clear hkB')
      refine hK.out _ _ ?_ (fun hHeld2 => ?_)
      · (try dsimp only); (first | exact SB.mk hkB | exact SB.mk ((Below.refl _ _).drew) | (go_split_ands; refine SB.mk (Below.drew ?_); assumption) | (refine SB.mk ?_; go_grown; done) | (go_split_ands; refine SB.mk ?_; go_grown; done))
      clear hK K hHeld; have hHeld := hHeld2; clear hHeld2; (try simp only [Act.put, List.setIfInBounds_toArray, List.set_cons_zero, List.set_cons_succ])
      first | (refine take_on (i := 9) (v := ?_) rfl (by kernel_rfl) (by kernel_rfl) (by kernel_rfl) (fun _ _ _ h => h) rfl ?_ (by assumption) ?_; rotate_left; · (intro w' hSw; (try dsimp only at hSw); go_simp; (try with_reducible rfl))) | (refine take_off (i := 9) rfl (by kernel_rfl) (by kernel_rfl) (by kernel_rfl) (fun _ _ _ h => h) rfl (by assumption) ?_)
      (try simp only [Act.put, List.setIfInBounds_toArray, List.set_cons_zero, List.set_cons_succ])
      first | (refine take_on (i := 10) (v := ?_) rfl (by kernel_rfl) (by kernel_rfl) (by kernel_rfl) (fun _ _ _ h => h) rfl ?_ (by assumption) ?_; rotate_left; · (intro w' hSw; (try dsimp only at hSw); go_simp; (try with_reducible rfl))) | (refine take_off (i := 10) rfl (by kernel_rfl) (by kernel_rfl) (by kernel_rfl) (fun _ _ _ h => h) rfl (by assumption) ?_)
      (try simp only [Act.put, List.setIfInBounds_toArray, List.set_cons_zero, List.set_cons_succ])
      first | (refine take_on (i := 11) (v := ?_) rfl (by kernel_rfl) (by kernel_rfl) (by kernel_rfl) (fun _ _ _ h => h) rfl ?_ (by assumption) ?_; rotate_left; · (intro w' hSw; (try dsimp only at hSw); go_simp; (try with_reducible rfl))) | (refine take_off (i := 11) rfl (by kernel_rfl) (by kernel_rfl) (by kernel_rfl) (fun _ _ _ h => h) rfl (by assumption) ?_)
      (try simp only [Act.put, List.setIfInBounds_toArray, List.set_cons_zero, List.set_cons_succ])
      refine wpAnyH_done (by kernel_rfl) ?_ _
      have hhB : Below w2.heap.size w2 wC := hHeld.2.2
      clear hHeld hkB
      obtain ⟨w3, rfl⟩ : ∃ x, x = wC := ⟨wC, rfl⟩
      have hT3 : Below w.heap.size w w3 := Below.next hT2 hhB
      have HK3 := Lib.hid (HK2.out.next hhB)
      have HR3 := Lib.hid (HR2.out.next hhB)
      clear q0 ql hhB
      have q0 : w3.cell? ⟨w.heap.size, 0, none⟩ = some (.slice f.ch.A f.ch.l.length f.ch.c) := HK3.out.cell 0
      have q1 : w3.cell? ⟨w.heap.size, 1, none⟩ = some (.slice f.st.A f.st.l.length f.st.c) := HK3.out.cell 1
      have ql := HK3.out.lt
      obtain ⟨er, fr⟩ := bk1 HR3.out
      have hgr := HR3.out.lt
      go_wp2_with fail
      refine bodyPost_ret (by simp [results, Try.results43, go_sem, *]; try rfl) rfl ?_
      exact ⟨none, 0, [], rfl, rfl, InkOwn.nil _ _ _, by have hT9 := hT3; go_grown⟩
  · clear hno
    go_enter Try.func43, Try.ntmps43
    go_wp2_with fail
    refine (iValid_L f p true _ HA.out hp hs ht HV).mono ?_
    rintro e w2 ⟨rfl, hb2⟩
    have hT2 : Below w.heap.size w w2 := Below.next (by go_grown) hb2
    have HK2 := Lib.hid (HK.out.next hb2)
    have HR2 := Lib.hid (HR0.out.next hb2)
    have HA2 := Lib.hid (HA.out.below hb2)
    have RCH : Hid (Rd w2 f.ch.A f.ch.l.length 4 (rowOf chC f.ch.l)) := HA2.out.ch.1
    have RCHd : Hid (Rd w2.drew f.ch.A f.ch.l.length 4 (rowOf chC f.ch.l)) := HA2.out.ch.1
    have ql := HK2.out.lt
    have q0 : w2.cell? ⟨w.heap.size, 0, none⟩ = some (.slice f.ch.A f.ch.l.length f.ch.c) := HK2.out.cell 0
    have Q0 := Lib.hid q0
    clear hb2
    go_wp2_with fail
    refine wp_region_held_drew (S := (fun w' => (∀ kb ko, kb < w2.heap.size → w'.cell? ⟨kb, ko, none⟩ = w2.cell? ⟨kb, ko, none⟩) ∧ w2.heap.size ≤ w'.heap.size ∧ Below w2.heap.size w2 w')) (by kernel_rfl) ?_ (fun hHeld => ?_)
    · (try dsimp only); (first | exact SB.mk hkB | exact SB.mk ((Below.refl _ _).drew) | (go_split_ands; refine SB.mk (Below.drew ?_); assumption) | (refine SB.mk ?_; go_grown; done) | (go_split_ands; refine SB.mk ?_; go_grown; done))
    first | (refine take_on (i := 0) (v := ?_) rfl (by kernel_rfl) (by kernel_rfl) (by kernel_rfl) (fun _ _ _ h => h) rfl ?_ (by assumption) ?_; rotate_left; · (intro w' hSw; (try dsimp only at hSw); go_simp; (try with_reducible rfl))) | (refine take_off (i := 0) rfl (by kernel_rfl) (by kernel_rfl) (by kernel_rfl) (fun _ _ _ h => h) rfl (by assumption) ?_)
    (try simp only [Act.put, List.setIfInBounds_toArray, List.set_cons_zero, List.set_cons_succ])
    first | (refine take_on (i := 1) (v := ?_) rfl (by kernel_rfl) (by kernel_rfl) (by kernel_rfl) (fun _ _ _ h => h) rfl ?_ (by assumption) ?_; rotate_left; · (intro w' hSw; (try dsimp only at hSw); go_simp; (try with_reducible rfl))) | (refine take_off (i := 1) rfl (by kernel_rfl) (by kernel_rfl) (by kernel_rfl) (fun _ _ _ h => h) rfl (by assumption) ?_)
    (try simp only [Act.put, List.setIfInBounds_toArray, List.set_cons_zero, List.set_cons_succ])
    first | (refine take_on (i := 3) (v := ?_) rfl (by kernel_rfl) (by kernel_rfl) (by kernel_rfl) (fun _ _ _ h => h) rfl ?_ (by assumption) ?_; rotate_left; · (intro w' hSw; (try dsimp only at hSw); go_simp; (try with_reducible rfl))) | (refine take_off (i := 3) rfl (by kernel_rfl) (by kernel_rfl) (by kernel_rfl) (fun _ _ _ h => h) rfl (by assumption) ?_)
    (try simp only [Act.put, List.setIfInBounds_toArray, List.set_cons_zero, List.set_cons_succ])
    first | (refine take_on (i := 4) (v := ?_) rfl (by kernel_rfl) (by kernel_rfl) (by kernel_rfl) (fun _ _ _ h => h) rfl ?_ (by assumption) ?_; rotate_left; · (intro w' hSw; (try dsimp only at hSw); go_simp; (try with_reducible rfl))) | (refine take_off (i := 4) rfl (by kernel_rfl) (by kernel_rfl) (by kernel_rfl) (fun _ _ _ h => h) rfl (by assumption) ?_)
    (try simp only [Act.put, List.setIfInBounds_toArray, List.set_cons_zero, List.set_cons_succ])
    first | (refine take_on (i := 6) (v := ?_) rfl (by kernel_rfl) (by kernel_rfl) (by kernel_rfl) (fun _ _ _ h => h) rfl ?_ (by assumption) ?_; rotate_left; · (intro w' hSw; (try dsimp only at hSw); go_simp; (try with_reducible rfl))) | (refine take_off (i := 6) rfl (by kernel_rfl) (by kernel_rfl) (by kernel_rfl) (fun _ _ _ h => h) rfl (by assumption) ?_)
    (try simp only [Act.put, List.setIfInBounds_toArray, List.set_cons_zero, List.set_cons_succ])
    first | (refine take_on (i := 7) (v := ?_) rfl (by kernel_rfl) (by kernel_rfl) (by kernel_rfl) (fun _ _ _ h => h) rfl ?_ (by assumption) ?_; rotate_left; · (intro w' hSw; (try dsimp only at hSw); go_simp; (try with_reducible rfl))) | (refine take_off (i := 7) rfl (by kernel_rfl) (by kernel_rfl) (by kernel_rfl) (fun _ _ _ h => h) rfl (by assumption) ?_)
    (try simp only [Act.put, List.setIfInBounds_toArray, List.set_cons_zero, List.set_cons_succ])
    refine wpAnyH_ready (rs := [2]) (by kernel_rfl) (by simp) ?_
    refine AllReadyH.cons rfl (fun K hK => ?_) AllReadyH.nil
    rw [if_pos (by rfl)]
    go_simp
    first | (go_at_call 75; (with_reducible refine (indexOf_any f.ch.A f.ch.l.length f.ch.c f.ch.l ⟨#[120]⟩ x _ RCHd.out rfl hnc Hx).mono ?_); rintro e wA ⟨rfl, hb⟩; have hkB : Below w2.heap.size w2 wA := Below.next (by go_grown) hb; clear hb) | (go_at_call 75; (with_reducible refine (indexOf_any f.ch.A f.ch.l.length f.ch.c f.ch.l ⟨#[121]⟩ y _ (RCH.out.below hkB) rfl hnc Hy).mono ?_); rintro e wB ⟨rfl, hb⟩; have hkB' : Below w2.heap.size w2 wB := Below.next hkB hb; clear hb hkB; have hkB := hkB'; clear hkB') | (go_at_call 75; (with_reducible refine (indexOf_any f.ch.A f.ch.l.length f.ch.c f.ch.l ⟨#[116]⟩ t _ (RCH.out.below hkB) rfl hnc Ht).mono ?_); rintro e wC ⟨rfl, hb⟩; have hkB' : Below w2.heap.size w2 wC := Below.next hkB hb; clear hb hkB; have hkB := hkB'; clear hkB')
    refine hK.out _ _ ?_ (fun hHeld2 => ?_)
    · (try dsimp only); (first | exact SB.mk hkB | exact SB.mk ((Below.refl _ _).drew) | (go_split_ands; refine SB.mk (Below.drew ?_); assumption) | (refine SB.mk ?_; go_grown; done) | (go_split_ands; refine SB.mk ?_; go_grown; done))
    clear hK K hHeld; have hHeld := hHeld2; clear hHeld2; (try simp only [Act.put, List.setIfInBounds_toArray, List.set_cons_zero, List.set_cons_succ])
    refine wpAnyH_ready (rs := [5]) (by kernel_rfl) (by simp) ?_
    refine AllReadyH.cons rfl (fun K hK => ?_) AllReadyH.nil
    rw [if_pos (by rfl)]
    go_simp
    first | (go_at_call 75; (with_reducible refine (indexOf_any f.ch.A f.ch.l.length f.ch.c f.ch.l ⟨#[120]⟩ x _ RCHd.out rfl hnc Hx).mono ?_); rintro e wA ⟨rfl, hb⟩; have hkB : Below w2.heap.size w2 wA := Below.next (by go_grown) hb; clear hb) | (go_at_call 75; (with_reducible refine (indexOf_any f.ch.A f.ch.l.length f.ch.c f.ch.l ⟨#[121]⟩ y _ (RCH.out.below hkB) rfl hnc Hy).mono ?_); rintro e wB ⟨rfl, hb⟩; have hkB' : Below w2.heap.size w2 wB := Below.next hkB hb; clear hb hkB; have hkB := hkB'; clear hkB') | (go_at_call 75; (with_reducible refine (indexOf_any f.ch.A f.ch.l.length f.ch.c f.ch.l ⟨#[116]⟩ t _ (RCH.out.below hkB) rfl hnc Ht).mono ?_); rintro e wC ⟨rfl, hb⟩; have hkB' : Below w2.heap.size w2 wC := Below.next hkB hb; clear hb hkB; have hkB := hkB'; clear hkB')
    refine hK.out _ _ ?_ (fun hHeld2 => ?_)
    · (try dsimp only); (first | exact SB.mk hkB | exact SB.mk ((Below.refl _ _).drew) | (go_split_ands; refine SB.mk (Below.drew ?_); assumption) | (refine SB.mk ?_; go_grown; done) | (go_split_ands; refine SB.mk ?_; go_grown; done))
    clear hK K hHeld; have hHeld := hHeld2; clear hHeld2; (try simp only [Act.put, List.setIfInBounds_toArray, List.set_cons_zero, List.set_cons_succ])
    refine wpAnyH_ready (rs := [8]) (by kernel_rfl) (by simp) ?_
    refine AllReadyH.cons rfl (fun K hK => ?_) AllReadyH.nil
    rw [if_pos (by rfl)]
    go_simp
    first | (go_at_call 75; (with_reducible refine (indexOf_any f.ch.A f.ch.l.length f.ch.c f.ch.l ⟨#[120]⟩ x _ RCHd.out rfl hnc Hx).mono ?_); rintro e wA ⟨rfl, hb⟩; have hkB : Below w2.heap.size w2 wA := Below.next (by go_grown) hb; clear hb) | (go_at_call 75; (with_reducible refine (indexOf_any f.ch.A f.ch.l.length f.ch.c f.ch.l ⟨#[121]⟩ y _ (RCH.out.below hkB) rfl hnc Hy).mono ?_); rintro e wB ⟨rfl, hb⟩; have hkB' : Below w2.heap.size w2 wB := Below.next hkB hb; clear hb hkB; have hkB := hkB'; clear hkB') | (go_at_call 75; (with_reducible refine (indexOf_any f.ch.A f.ch.l.length f.ch.c f.ch.l ⟨#[116]⟩ t _ (RCH.out.below hkB) rfl hnc Ht).mono ?_); rintro e wC ⟨rfl, hb⟩; have hkB' : Below w2.heap.size w2 wC := Below.next hkB hb; clear hb hkB; have hkB := hkB'; clear hkB')
    refine hK.out _ _ ?_ (fun hHeld2 => ?_)
    · (try dsimp only); (first | exact SB.mk hkB | exact SB.mk ((Below.refl _ _).drew) | (go_split_ands; refine SB.mk (Below.drew ?_); assumption) | (refine SB.mk ?_; go_grown; done) | (go_split_ands; refine SB.mk ?_; go_grown; done))
    clear hK K hHeld; have hHeld := hHeld2; clear hHeld2; (try simp only [Act.put, List.setIfInBounds_toArray, List.set_cons_zero, List.set_cons_succ])
    first | (refine take_on (i := 9) (v := ?_) rfl (by kernel_rfl) (by kernel_rfl) (by kernel_rfl) (fun _ _ _ h => h) rfl ?_ (by assumption) ?_; rotate_left; · (intro w' hSw; (try dsimp only at hSw); go_simp; (try with_reducible rfl))) | (refine take_off (i := 9) rfl (by kernel_rfl) (by kernel_rfl) (by kernel_rfl) (fun _ _ _ h => h) rfl (by assumption) ?_)
    (try simp only [Act.put, List.setIfInBounds_toArray, List.set_cons_zero, List.set_cons_succ])
    first | (refine take_on (i := 10) (v := ?_) rfl (by kernel_rfl) (by kernel_rfl) (by kernel_rfl) (fun _ _ _ h => h) rfl ?_ (by assumption) ?_; rotate_left; · (intro w' hSw; (try dsimp only at hSw); go_simp; (try with_reducible rfl))) | (refine take_off (i := 10) rfl (by kernel_rfl) (by kernel_rfl) (by kernel_rfl) (fun _ _ _ h => h) rfl (by assumption) ?_)
    (try simp only [Act.put, List.setIfInBounds_toArray, List.set_cons_zero, List.set_cons_succ])
    first | (refine take_on (i := 11) (v := ?_) rfl (by kernel_rfl) (by kernel_rfl) (by kernel_rfl) (fun _ _ _ h => h) rfl ?_ (by assumption) ?_; rotate_left; · (intro w' hSw; (try dsimp only at hSw); go_simp; (try with_reducible rfl))) | (refine take_off (i := 11) rfl (by kernel_rfl) (by kernel_rfl) (by kernel_rfl) (fun _ _ _ h => h) rfl (by assumption) ?_)
    (try simp only [Act.put, List.setIfInBounds_toArray, List.set_cons_zero, List.set_cons_succ])
    refine wpAnyH_done (by kernel_rfl) ?_ _
    have hhB : Below w2.heap.size w2 wC := hHeld.2.2
    clear hHeld hkB
    obtain ⟨w3, rfl⟩ : ∃ x, x = wC := ⟨wC, rfl⟩
    have hT3 : Below w.heap.size w w3 := Below.next hT2 hhB
    have HK3 := Lib.hid (HK2.out.next hhB)
    have HR3 := Lib.hid (HR2.out.next hhB)
    clear q0 ql hhB
    have q0 : w3.cell? ⟨w.heap.size, 0, none⟩ = some (.slice f.ch.A f.ch.l.length f.ch.c) := HK3.out.cell 0
    have q1 : w3.cell? ⟨w.heap.size, 1, none⟩ = some (.slice f.st.A f.st.l.length f.st.c) := HK3.out.cell 1
    have ql := HK3.out.lt
    obtain ⟨er, fr⟩ := bk1 HR3.out
    have hgr := HR3.out.lt
    go_wp2_with fail
    refine bodyPost_ret (by simp [results, Try.results43, go_sem, *]; try rfl) rfl ?_
    exact ⟨none, 0, [], rfl, rfl, InkOwn.nil _ _ _, by have hT9 := hT3; go_grown⟩
set_option maxHeartbeats 2000000 in
theorem iIof_unit (f : Fl) (p : FlP) (L : List (List Pt)) (N : Nat) (code : Int) (hok : Is true (FileOk p)) (x y t : Nat) (hx0 : Hid (idxZ p.ch ⟨#[120]⟩ = (x : Int))) (hy0 : Hid (idxZ p.ch ⟨#[121]⟩ = (y : Int))) (ht0 : Hid (idxZ p.ch ⟨#[116]⟩ = (t : Int))) (u0 : ByteArray) (hu0 : Hid ((p.ch.getD t ch0).unit = u0)) (hk : facI u0 = 0) (hR : Hid (iofR true p x y t = (L, code))) (w : World) (h : FileRd w f) (hp : filePl f = p) (hs : PlSz p) (ht : PlTx p) (hN : Hid (L.length = N)) :
    Calls Try.prog 43 #[.agg #[.slice f.ch.A f.ch.l.length f.ch.c, .slice f.st.A f.st.l.length f.st.c, .slice f.no.A f.no.l.length f.no.c]] w fun e w' => ∃ A2 c2 T, e = .returned (.tuple #[.agg #[.slice A2 N c2], .int .i64 code]) ∧ ptsOf T = L ∧ InkOwn w' w.heap.size w'.heap.size (.slice A2 N c2) T ∧ Below w.heap.size w w' := by
  have HP := Lib.hid hp
  have hpc : Hid (f.ch.l = p.ch) := congrArg FlP.ch hp
  have hps : Hid (f.st.l.map rowsK.pl = p.st) := congrArg FlP.st hp
  have HK : Hid (Bk ((w.alloc (.cells #[.slice f.ch.A f.ch.l.length f.ch.c, .slice f.st.A f.st.l.length f.st.c, .slice f.no.A f.no.l.length f.no.c] 30)).alloc (.cells #[.slice none 0 0] 35)) w.heap.size 30 #[.slice f.ch.A f.ch.l.length f.ch.c, .slice f.st.A f.st.l.length f.st.c, .slice f.no.A f.no.l.length f.no.c]) := (Bk.new w _ _).alloc _
  have HR0 : Hid (Bk ((w.alloc (.cells #[.slice f.ch.A f.ch.l.length f.ch.c, .slice f.st.A f.st.l.length f.st.c, .slice f.no.A f.no.l.length f.no.c] 30)).alloc (.cells #[.slice none 0 0] 35)) (w.heap.size + 1) 35 #[.slice none 0 0]) := Bk.new1 w _ _ _
  have HA := Lib.hid ((h.alloc (.cells #[.slice f.ch.A f.ch.l.length f.ch.c, .slice f.st.A f.st.l.length f.st.c, .slice f.no.A f.no.l.length f.no.c] 30)).alloc (.cells #[.slice none 0 0] 35))
  have H0 := Lib.hid h
  have hnc : f.ch.l.length ≤ 1048576 := by rw [hpc.out]; exact hs.ch
  clear h
  have HV := hok
  have HOK := Lib.hid (hok.1 rfl)
  have Hx : Hid (idxZ f.ch.l ⟨#[120]⟩ = (x : Int)) := by rw [Hid, hpc.out]; exact hx0.out
  have Hy : Hid (idxZ f.ch.l ⟨#[121]⟩ = (y : Int)) := by rw [Hid, hpc.out]; exact hy0.out
  have Ht : Hid (idxZ f.ch.l ⟨#[116]⟩ = (t : Int)) := by rw [Hid, hpc.out]; exact ht0.out
  have hxn : x < f.ch.l.length := by have e1 := (idxZ_bd f.ch.l ⟨#[120]⟩).2; rw [Hx.out] at e1; omega
  have hdx : decide ((x : Int) < 0) = false := by simp
  have hxl : (x : Int) < (f.ch.l.length : Int) := by omega
  have hxg : (0 : Int) ≤ (x : Int) := by omega
  have hyn : y < f.ch.l.length := by have e1 := (idxZ_bd f.ch.l ⟨#[121]⟩).2; rw [Hy.out] at e1; omega
  have hdy : decide ((y : Int) < 0) = false := by simp
  have hyl : (y : Int) < (f.ch.l.length : Int) := by omega
  have hyg : (0 : Int) ≤ (y : Int) := by omega
  have htn : t < f.ch.l.length := by have e1 := (idxZ_bd f.ch.l ⟨#[116]⟩).2; rw [Ht.out] at e1; omega
  have hdt : decide ((t : Int) < 0) = false := by simp
  have htl : (t : Int) < (f.ch.l.length : Int) := by omega
  have htg : (0 : Int) ≤ (t : Int) := by omega
  have HU0 : Hid (f.ch.l[t].unit = u0) := by have e1 := hu0.out; rw [← hpc.out, getD_ch htn] at e1; exact e1
  have h2 := hR.out
  rw [iofR_unit (by rw [hu0.out]; exact hk)] at h2
  obtain ⟨e1, e2⟩ : [] = L ∧ (8 : Int) = code := by injection h2 with e1 e2; exact ⟨e1, e2⟩
  subst e1; subst e2
  obtain rfl : 0 = N := hN.out
  clear h2
  obtain ⟨g1, g2, g3⟩ := facI_none hk
  clear hk
  go_enter Try.func43, Try.ntmps43
  go_wp2_with fail
  refine (iValid_L f p true _ HA.out hp hs ht HV).mono ?_
  rintro e w2 ⟨rfl, hb2⟩
  have hT2 : Below w.heap.size w w2 := Below.next (by go_grown) hb2
  have HK2 := Lib.hid (HK.out.next hb2)
  have HR2 := Lib.hid (HR0.out.next hb2)
  have HA2 := Lib.hid (HA.out.below hb2)
  have RCH : Hid (Rd w2 f.ch.A f.ch.l.length 4 (rowOf chC f.ch.l)) := HA2.out.ch.1
  have RCHd : Hid (Rd w2.drew f.ch.A f.ch.l.length 4 (rowOf chC f.ch.l)) := HA2.out.ch.1
  have ql := HK2.out.lt
  have q0 : w2.cell? ⟨w.heap.size, 0, none⟩ = some (.slice f.ch.A f.ch.l.length f.ch.c) := HK2.out.cell 0
  have Q0 := Lib.hid q0
  clear hb2
  go_wp2_with fail
  refine wp_region_held_drew (S := (fun w' => (∀ kb ko, kb < w2.heap.size → w'.cell? ⟨kb, ko, none⟩ = w2.cell? ⟨kb, ko, none⟩) ∧ w2.heap.size ≤ w'.heap.size ∧ Below w2.heap.size w2 w')) (by kernel_rfl) ?_ (fun hHeld => ?_)
  · (try dsimp only); (first | exact SB.mk hkB | exact SB.mk ((Below.refl _ _).drew) | (go_split_ands; refine SB.mk (Below.drew ?_); assumption) | (refine SB.mk ?_; go_grown; done) | (go_split_ands; refine SB.mk ?_; go_grown; done))
  first | (refine take_on (i := 0) (v := ?_) rfl (by kernel_rfl) (by kernel_rfl) (by kernel_rfl) (fun _ _ _ h => h) rfl ?_ (by assumption) ?_; rotate_left; · (intro w' hSw; (try dsimp only at hSw); go_simp; (try with_reducible rfl))) | (refine take_off (i := 0) rfl (by kernel_rfl) (by kernel_rfl) (by kernel_rfl) (fun _ _ _ h => h) rfl (by assumption) ?_)
  (try simp only [Act.put, List.setIfInBounds_toArray, List.set_cons_zero, List.set_cons_succ])
  first | (refine take_on (i := 1) (v := ?_) rfl (by kernel_rfl) (by kernel_rfl) (by kernel_rfl) (fun _ _ _ h => h) rfl ?_ (by assumption) ?_; rotate_left; · (intro w' hSw; (try dsimp only at hSw); go_simp; (try with_reducible rfl))) | (refine take_off (i := 1) rfl (by kernel_rfl) (by kernel_rfl) (by kernel_rfl) (fun _ _ _ h => h) rfl (by assumption) ?_)
  (try simp only [Act.put, List.setIfInBounds_toArray, List.set_cons_zero, List.set_cons_succ])
  first | (refine take_on (i := 3) (v := ?_) rfl (by kernel_rfl) (by kernel_rfl) (by kernel_rfl) (fun _ _ _ h => h) rfl ?_ (by assumption) ?_; rotate_left; · (intro w' hSw; (try dsimp only at hSw); go_simp; (try with_reducible rfl))) | (refine take_off (i := 3) rfl (by kernel_rfl) (by kernel_rfl) (by kernel_rfl) (fun _ _ _ h => h) rfl (by assumption) ?_)
  (try simp only [Act.put, List.setIfInBounds_toArray, List.set_cons_zero, List.set_cons_succ])
  first | (refine take_on (i := 4) (v := ?_) rfl (by kernel_rfl) (by kernel_rfl) (by kernel_rfl) (fun _ _ _ h => h) rfl ?_ (by assumption) ?_; rotate_left; · (intro w' hSw; (try dsimp only at hSw); go_simp; (try with_reducible rfl))) | (refine take_off (i := 4) rfl (by kernel_rfl) (by kernel_rfl) (by kernel_rfl) (fun _ _ _ h => h) rfl (by assumption) ?_)
  (try simp only [Act.put, List.setIfInBounds_toArray, List.set_cons_zero, List.set_cons_succ])
  first | (refine take_on (i := 6) (v := ?_) rfl (by kernel_rfl) (by kernel_rfl) (by kernel_rfl) (fun _ _ _ h => h) rfl ?_ (by assumption) ?_; rotate_left; · (intro w' hSw; (try dsimp only at hSw); go_simp; (try with_reducible rfl))) | (refine take_off (i := 6) rfl (by kernel_rfl) (by kernel_rfl) (by kernel_rfl) (fun _ _ _ h => h) rfl (by assumption) ?_)
  (try simp only [Act.put, List.setIfInBounds_toArray, List.set_cons_zero, List.set_cons_succ])
  first | (refine take_on (i := 7) (v := ?_) rfl (by kernel_rfl) (by kernel_rfl) (by kernel_rfl) (fun _ _ _ h => h) rfl ?_ (by assumption) ?_; rotate_left; · (intro w' hSw; (try dsimp only at hSw); go_simp; (try with_reducible rfl))) | (refine take_off (i := 7) rfl (by kernel_rfl) (by kernel_rfl) (by kernel_rfl) (fun _ _ _ h => h) rfl (by assumption) ?_)
  (try simp only [Act.put, List.setIfInBounds_toArray, List.set_cons_zero, List.set_cons_succ])
  refine wpAnyH_ready (rs := [2]) (by kernel_rfl) (by simp) ?_
  refine AllReadyH.cons rfl (fun K hK => ?_) AllReadyH.nil
  rw [if_pos (by rfl)]
  go_simp
  first | (go_at_call 75; (with_reducible refine (indexOf_any f.ch.A f.ch.l.length f.ch.c f.ch.l ⟨#[120]⟩ (x : Int) _ RCHd.out rfl hnc Hx).mono ?_); rintro e wA ⟨rfl, hb⟩; have hkB : Below w2.heap.size w2 wA := Below.next (by go_grown) hb; clear hb) | (go_at_call 75; (with_reducible refine (indexOf_any f.ch.A f.ch.l.length f.ch.c f.ch.l ⟨#[121]⟩ (y : Int) _ (RCH.out.below hkB) rfl hnc Hy).mono ?_); rintro e wB ⟨rfl, hb⟩; have hkB' : Below w2.heap.size w2 wB := Below.next hkB hb; clear hb hkB; have hkB := hkB'; clear hkB') | (go_at_call 75; (with_reducible refine (indexOf_any f.ch.A f.ch.l.length f.ch.c f.ch.l ⟨#[116]⟩ (t : Int) _ (RCH.out.below hkB) rfl hnc Ht).mono ?_); rintro e wC ⟨rfl, hb⟩; have hkB' : Below w2.heap.size w2 wC := Below.next hkB hb; clear hb hkB; have hkB := hkB'; clear hkB')
  refine hK.out _ _ ?_ (fun hHeld2 => ?_)
  · (try dsimp only); (first | exact SB.mk hkB | exact SB.mk ((Below.refl _ _).drew) | (go_split_ands; refine SB.mk (Below.drew ?_); assumption) | (refine SB.mk ?_; go_grown; done) | (go_split_ands; refine SB.mk ?_; go_grown; done))
  clear hK K hHeld; have hHeld := hHeld2; clear hHeld2; (try simp only [Act.put, List.setIfInBounds_toArray, List.set_cons_zero, List.set_cons_succ])
  refine wpAnyH_ready (rs := [5]) (by kernel_rfl) (by simp) ?_
  refine AllReadyH.cons rfl (fun K hK => ?_) AllReadyH.nil
  rw [if_pos (by rfl)]
  go_simp
  first | (go_at_call 75; (with_reducible refine (indexOf_any f.ch.A f.ch.l.length f.ch.c f.ch.l ⟨#[120]⟩ (x : Int) _ RCHd.out rfl hnc Hx).mono ?_); rintro e wA ⟨rfl, hb⟩; have hkB : Below w2.heap.size w2 wA := Below.next (by go_grown) hb; clear hb) | (go_at_call 75; (with_reducible refine (indexOf_any f.ch.A f.ch.l.length f.ch.c f.ch.l ⟨#[121]⟩ (y : Int) _ (RCH.out.below hkB) rfl hnc Hy).mono ?_); rintro e wB ⟨rfl, hb⟩; have hkB' : Below w2.heap.size w2 wB := Below.next hkB hb; clear hb hkB; have hkB := hkB'; clear hkB') | (go_at_call 75; (with_reducible refine (indexOf_any f.ch.A f.ch.l.length f.ch.c f.ch.l ⟨#[116]⟩ (t : Int) _ (RCH.out.below hkB) rfl hnc Ht).mono ?_); rintro e wC ⟨rfl, hb⟩; have hkB' : Below w2.heap.size w2 wC := Below.next hkB hb; clear hb hkB; have hkB := hkB'; clear hkB')
  refine hK.out _ _ ?_ (fun hHeld2 => ?_)
  · (try dsimp only); (first | exact SB.mk hkB | exact SB.mk ((Below.refl _ _).drew) | (go_split_ands; refine SB.mk (Below.drew ?_); assumption) | (refine SB.mk ?_; go_grown; done) | (go_split_ands; refine SB.mk ?_; go_grown; done))
  clear hK K hHeld; have hHeld := hHeld2; clear hHeld2; (try simp only [Act.put, List.setIfInBounds_toArray, List.set_cons_zero, List.set_cons_succ])
  refine wpAnyH_ready (rs := [8]) (by kernel_rfl) (by simp) ?_
  refine AllReadyH.cons rfl (fun K hK => ?_) AllReadyH.nil
  rw [if_pos (by rfl)]
  go_simp
  first | (go_at_call 75; (with_reducible refine (indexOf_any f.ch.A f.ch.l.length f.ch.c f.ch.l ⟨#[120]⟩ (x : Int) _ RCHd.out rfl hnc Hx).mono ?_); rintro e wA ⟨rfl, hb⟩; have hkB : Below w2.heap.size w2 wA := Below.next (by go_grown) hb; clear hb) | (go_at_call 75; (with_reducible refine (indexOf_any f.ch.A f.ch.l.length f.ch.c f.ch.l ⟨#[121]⟩ (y : Int) _ (RCH.out.below hkB) rfl hnc Hy).mono ?_); rintro e wB ⟨rfl, hb⟩; have hkB' : Below w2.heap.size w2 wB := Below.next hkB hb; clear hb hkB; have hkB := hkB'; clear hkB') | (go_at_call 75; (with_reducible refine (indexOf_any f.ch.A f.ch.l.length f.ch.c f.ch.l ⟨#[116]⟩ (t : Int) _ (RCH.out.below hkB) rfl hnc Ht).mono ?_); rintro e wC ⟨rfl, hb⟩; have hkB' : Below w2.heap.size w2 wC := Below.next hkB hb; clear hb hkB; have hkB := hkB'; clear hkB')
  refine hK.out _ _ ?_ (fun hHeld2 => ?_)
  · (try dsimp only); (first | exact SB.mk hkB | exact SB.mk ((Below.refl _ _).drew) | (go_split_ands; refine SB.mk (Below.drew ?_); assumption) | (refine SB.mk ?_; go_grown; done) | (go_split_ands; refine SB.mk ?_; go_grown; done))
  clear hK K hHeld; have hHeld := hHeld2; clear hHeld2; (try simp only [Act.put, List.setIfInBounds_toArray, List.set_cons_zero, List.set_cons_succ])
  first | (refine take_on (i := 9) (v := ?_) rfl (by kernel_rfl) (by kernel_rfl) (by kernel_rfl) (fun _ _ _ h => h) rfl ?_ (by assumption) ?_; rotate_left; · (intro w' hSw; (try dsimp only at hSw); go_simp; (try with_reducible rfl))) | (refine take_off (i := 9) rfl (by kernel_rfl) (by kernel_rfl) (by kernel_rfl) (fun _ _ _ h => h) rfl (by assumption) ?_)
  (try simp only [Act.put, List.setIfInBounds_toArray, List.set_cons_zero, List.set_cons_succ])
  first | (refine take_on (i := 10) (v := ?_) rfl (by kernel_rfl) (by kernel_rfl) (by kernel_rfl) (fun _ _ _ h => h) rfl ?_ (by assumption) ?_; rotate_left; · (intro w' hSw; (try dsimp only at hSw); go_simp; (try with_reducible rfl))) | (refine take_off (i := 10) rfl (by kernel_rfl) (by kernel_rfl) (by kernel_rfl) (fun _ _ _ h => h) rfl (by assumption) ?_)
  (try simp only [Act.put, List.setIfInBounds_toArray, List.set_cons_zero, List.set_cons_succ])
  first | (refine take_on (i := 11) (v := ?_) rfl (by kernel_rfl) (by kernel_rfl) (by kernel_rfl) (fun _ _ _ h => h) rfl ?_ (by assumption) ?_; rotate_left; · (intro w' hSw; (try dsimp only at hSw); go_simp; (try with_reducible rfl))) | (refine take_off (i := 11) rfl (by kernel_rfl) (by kernel_rfl) (by kernel_rfl) (fun _ _ _ h => h) rfl (by assumption) ?_)
  (try simp only [Act.put, List.setIfInBounds_toArray, List.set_cons_zero, List.set_cons_succ])
  refine wpAnyH_done (by kernel_rfl) ?_ _
  have hhB : Below w2.heap.size w2 wC := hHeld.2.2
  clear hHeld hkB
  obtain ⟨w3, rfl⟩ : ∃ x, x = wC := ⟨wC, rfl⟩
  have hT3 : Below w.heap.size w w3 := Below.next hT2 hhB
  have HK3 := Lib.hid (HK2.out.next hhB)
  have HR3 := Lib.hid (HR2.out.next hhB)
  clear q0 ql hhB
  have q0 : w3.cell? ⟨w.heap.size, 0, none⟩ = some (.slice f.ch.A f.ch.l.length f.ch.c) := HK3.out.cell 0
  have q1 : w3.cell? ⟨w.heap.size, 1, none⟩ = some (.slice f.st.A f.st.l.length f.st.c) := HK3.out.cell 1
  have ql := HK3.out.lt
  obtain ⟨b5, o5, e5, l5, c5⟩ := (H0.out.ch.1.below hT3).at chC_len rfl htn
  have u1 : w3.cell? ⟨b5, o5 + t * 4 + 1, none⟩ = some (.string f.ch.l[t].unit) := c5 1 _ rfl
  rw [HU0.out] at u1
  rw [e5] at q0
  clear c5 e5
  obtain ⟨er, fr⟩ := bk1 HR3.out
  have hgr := HR3.out.lt
  go_wp2_with fail
  refine bodyPost_ret (by simp [results, Try.results43, go_sem, *]; try rfl) rfl ?_
  exact ⟨none, 0, [], rfl, rfl, InkOwn.nil _ _ _, by have hT9 := hT3; go_grown⟩
end Go.Proofs.Ytigingjpdlfanaa
