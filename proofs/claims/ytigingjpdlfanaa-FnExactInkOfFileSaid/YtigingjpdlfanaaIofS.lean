/-
  The ink of a file, as the reference makes it: refusals.
-/
import Derived.Test.YtigingjpdlfanaaIofP
namespace Go.Proofs.Ytigingjpdlfanaa
set_option linter.unusedSimpArgs false
set_option linter.unusedVariables false
set_option maxRecDepth 20000
open Go.RowKit
open Go.ChangeShapes Go.WideShapes Go.Deep Go.Joins

set_option maxHeartbeats 2000000 in
theorem sIof_bad (f : Fl) (p : FlP) (L : List (List Pt)) (N : Nat) (code : Int) (hok : Is false (FileOk p)) (x y t : Int) (hR : Hid (iofR false p x y t = (L, code))) (w : World) (h : FileRd w f) (hp : filePl f = p) (hs : PlSz p) (ht : PlTx p) (hN : Hid (L.length = N)) :
    Calls Try.prog 42 #[.agg #[.slice f.ch.A f.ch.l.length f.ch.c, .slice f.st.A f.st.l.length f.st.c, .slice f.no.A f.no.l.length f.no.c]] w fun e w' => ∃ A2 c2 T, e = .returned (.tuple #[.agg #[.slice A2 N c2], .int .i64 code]) ∧ ptsOf T = L ∧ InkOwn w' w.heap.size w'.heap.size (.slice A2 N c2) T ∧ Below w.heap.size w w' := by
  have HP := Lib.hid hp
  have hpc : Hid (f.ch.l = p.ch) := congrArg FlP.ch hp
  have hps : Hid (f.st.l.map rowsK.pl = p.st) := congrArg FlP.st hp
  have HK : Hid (Bk ((w.alloc (.cells #[.slice f.ch.A f.ch.l.length f.ch.c, .slice f.st.A f.st.l.length f.st.c, .slice f.no.A f.no.l.length f.no.c] 30)).alloc (.cells #[.slice none 0 0] 35)) w.heap.size 30 #[.slice f.ch.A f.ch.l.length f.ch.c, .slice f.st.A f.st.l.length f.st.c, .slice f.no.A f.no.l.length f.no.c]) := (Bk.new w _ _).alloc _
  have HR0 : Hid (Bk ((w.alloc (.cells #[.slice f.ch.A f.ch.l.length f.ch.c, .slice f.st.A f.st.l.length f.st.c, .slice f.no.A f.no.l.length f.no.c] 30)).alloc (.cells #[.slice none 0 0] 35)) (w.heap.size + 1) 35 #[.slice none 0 0]) := Bk.new1 w _ _ _
  have HA := Lib.hid ((h.alloc (.cells #[.slice f.ch.A f.ch.l.length f.ch.c, .slice f.st.A f.st.l.length f.st.c, .slice f.no.A f.no.l.length f.no.c] 30)).alloc (.cells #[.slice none 0 0] 35))
  have H0 := Lib.hid h
  have hnc : f.ch.l.length ≤ 1048576 := by rw [hpc.out]; exact hs.ch
  clear h
  have HV := hok
  have h2 := hR.out
  rw [iofR_bad] at h2
  obtain ⟨e1, e2⟩ : [] = L ∧ (1 : Int) = code := by injection h2 with e1 e2; exact ⟨e1, e2⟩
  subst e1; subst e2
  obtain rfl : 0 = N := hN.out
  clear h2
  go_enter Try.func42, Try.ntmps42
  go_wp2_with fail
  refine (sOk_L _ f p false _ (FBox.of_bk HK.out) HA.out hp hs ht HV).mono ?_
  rintro e w2 ⟨rfl, hb2⟩
  have hT2 : Below w.heap.size w w2 := Below.next (by go_grown) hb2
  have HK2 := Lib.hid (HK.out.next hb2)
  have HR2 := Lib.hid (HR0.out.next hb2)
  have HA2 := Lib.hid (HA.out.below hb2)
  have RCH : Hid (Rd w2 f.ch.A f.ch.l.length 4 (rowOf chC f.ch.l)) := HA2.out.ch.1
  have RCHd : Hid (Rd w2.drew f.ch.A f.ch.l.length 4 (rowOf chC f.ch.l)) := HA2.out.ch.1
  have ql := HK2.out.lt
  have q0 : w2.cell? ⟨w.heap.size, 0, none⟩ = some (.slice f.ch.A f.ch.l.length f.ch.c) := HK2.out.cell 0
  have Q0 := Lib.hid q0
  clear hb2
  obtain ⟨er, fr⟩ := bk1 HR2.out
  have hgr := HR2.out.lt
  go_wp2_with fail
  refine bodyPost_ret (by simp [results, Try.results42, go_sem, *]; try rfl) rfl ?_
  exact ⟨none, 0, [], rfl, rfl, InkOwn.nil _ _ _, by have hT9 := hT2; go_grown⟩
set_option maxHeartbeats 2000000 in
theorem sIof_none (f : Fl) (p : FlP) (L : List (List Pt)) (N : Nat) (code : Int) (hok : Is true (FileOk p)) (x y t : Int) (hx0 : Hid (idxZ p.ch ⟨#[120]⟩ = x)) (hy0 : Hid (idxZ p.ch ⟨#[121]⟩ = y)) (ht0 : Hid (idxZ p.ch ⟨#[116]⟩ = t)) (hno : ¬ (0 ≤ x ∧ 0 ≤ y ∧ 0 ≤ t)) (hR : Hid (iofR true p x y t = (L, code))) (w : World) (h : FileRd w f) (hp : filePl f = p) (hs : PlSz p) (ht : PlTx p) (hN : Hid (L.length = N)) :
    Calls Try.prog 42 #[.agg #[.slice f.ch.A f.ch.l.length f.ch.c, .slice f.st.A f.st.l.length f.st.c, .slice f.no.A f.no.l.length f.no.c]] w fun e w' => ∃ A2 c2 T, e = .returned (.tuple #[.agg #[.slice A2 N c2], .int .i64 code]) ∧ ptsOf T = L ∧ InkOwn w' w.heap.size w'.heap.size (.slice A2 N c2) T ∧ Below w.heap.size w w' := by
  have HP := Lib.hid hp
  have hpc : Hid (f.ch.l = p.ch) := congrArg FlP.ch hp
  have hps : Hid (f.st.l.map rowsK.pl = p.st) := congrArg FlP.st hp
  have HK : Hid (Bk ((w.alloc (.cells #[.slice f.ch.A f.ch.l.length f.ch.c, .slice f.st.A f.st.l.length f.st.c, .slice f.no.A f.no.l.length f.no.c] 30)).alloc (.cells #[.slice none 0 0] 35)) w.heap.size 30 #[.slice f.ch.A f.ch.l.length f.ch.c, .slice f.st.A f.st.l.length f.st.c, .slice f.no.A f.no.l.length f.no.c]) := (Bk.new w _ _).alloc _
  have HR0 : Hid (Bk ((w.alloc (.cells #[.slice f.ch.A f.ch.l.length f.ch.c, .slice f.st.A f.st.l.length f.st.c, .slice f.no.A f.no.l.length f.no.c] 30)).alloc (.cells #[.slice none 0 0] 35)) (w.heap.size + 1) 35 #[.slice none 0 0]) := Bk.new1 w _ _ _
  have HA := Lib.hid ((h.alloc (.cells #[.slice f.ch.A f.ch.l.length f.ch.c, .slice f.st.A f.st.l.length f.st.c, .slice f.no.A f.no.l.length f.no.c] 30)).alloc (.cells #[.slice none 0 0] 35))
  have H0 := Lib.hid h
  have hnc : f.ch.l.length ≤ 1048576 := by rw [hpc.out]; exact hs.ch
  clear h
  have HV := hok
  have h2 := hR.out
  rw [iofR_none hno] at h2
  obtain ⟨e1, e2⟩ : [] = L ∧ (3 : Int) = code := by injection h2 with e1 e2; exact ⟨e1, e2⟩
  subst e1; subst e2
  obtain rfl : 0 = N := hN.out
  clear h2
  have Hx : Hid (idxZ f.ch.l ⟨#[120]⟩ = x) := by rw [Hid, hpc.out]; exact hx0.out
  have Hy : Hid (idxZ f.ch.l ⟨#[121]⟩ = y) := by rw [Hid, hpc.out]; exact hy0.out
  have Ht : Hid (idxZ f.ch.l ⟨#[116]⟩ = t) := by rw [Hid, hpc.out]; exact ht0.out
  cases g1 : decide (x < 0)
  · cases g2 : decide (y < 0)
    · cases g3 : decide (t < 0)
      · exfalso
        simp at g1 g2 g3
        exact hno ⟨g1, g2, g3⟩
      · clear hno
        go_enter Try.func42, Try.ntmps42
        go_wp2_with fail
        refine (sOk_L _ f p true _ (FBox.of_bk HK.out) HA.out hp hs ht HV).mono ?_
        rintro e w2 ⟨rfl, hb2⟩
        have hT2 : Below w.heap.size w w2 := Below.next (by go_grown) hb2
        have HK2 := Lib.hid (HK.out.next hb2)
        have HR2 := Lib.hid (HR0.out.next hb2)
        have HA2 := Lib.hid (HA.out.below hb2)
        have RCH : Hid (Rd w2 f.ch.A f.ch.l.length 4 (rowOf chC f.ch.l)) := HA2.out.ch.1
        have RCHd : Hid (Rd w2.drew f.ch.A f.ch.l.length 4 (rowOf chC f.ch.l)) := HA2.out.ch.1
        have ql := HK2.out.lt
        have q0 : w2.cell? ⟨w.heap.size, 0, none⟩ = some (.slice f.ch.A f.ch.l.length f.ch.c) := HK2.out.cell 0
        have Q0 := Lib.hid q0
        clear hb2
        have hT3 := hT2
        have HK3 := HK2
        have HR3 := HR2
        have q1 : w2.cell? ⟨w.heap.size, 1, none⟩ = some (.slice f.st.A f.st.l.length f.st.c) := HK3.out.cell 1
        obtain ⟨er, fr⟩ := bk1 HR3.out
        have hgr := HR3.out.lt
        go_wp2_with (first | (go_at_call 79; (with_reducible refine (l03Find_any w.heap.size f.ch.A f.ch.l.length f.ch.c f.ch.l ⟨#[120]⟩ x _ Q0.out RCH.out rfl hnc Hx).mono ?_); rintro e w' ⟨rfl, rfl⟩) | (go_at_call 79; (with_reducible refine (l03Find_any w.heap.size f.ch.A f.ch.l.length f.ch.c f.ch.l ⟨#[121]⟩ y _ Q0.out RCH.out rfl hnc Hy).mono ?_); rintro e w' ⟨rfl, rfl⟩) | (go_at_call 79; (with_reducible refine (l03Find_any w.heap.size f.ch.A f.ch.l.length f.ch.c f.ch.l ⟨#[116]⟩ t _ Q0.out RCH.out rfl hnc Ht).mono ?_); rintro e w' ⟨rfl, rfl⟩))
        refine bodyPost_ret (by simp [results, Try.results42, go_sem, *]; try rfl) rfl ?_
        exact ⟨none, 0, [], rfl, rfl, InkOwn.nil _ _ _, by have hT9 := hT3; go_grown⟩
    · clear hno
      go_enter Try.func42, Try.ntmps42
      go_wp2_with fail
      refine (sOk_L _ f p true _ (FBox.of_bk HK.out) HA.out hp hs ht HV).mono ?_
      rintro e w2 ⟨rfl, hb2⟩
      have hT2 : Below w.heap.size w w2 := Below.next (by go_grown) hb2
      have HK2 := Lib.hid (HK.out.next hb2)
      have HR2 := Lib.hid (HR0.out.next hb2)
      have HA2 := Lib.hid (HA.out.below hb2)
      have RCH : Hid (Rd w2 f.ch.A f.ch.l.length 4 (rowOf chC f.ch.l)) := HA2.out.ch.1
      have RCHd : Hid (Rd w2.drew f.ch.A f.ch.l.length 4 (rowOf chC f.ch.l)) := HA2.out.ch.1
      have ql := HK2.out.lt
      have q0 : w2.cell? ⟨w.heap.size, 0, none⟩ = some (.slice f.ch.A f.ch.l.length f.ch.c) := HK2.out.cell 0
      have Q0 := Lib.hid q0
      clear hb2
      have hT3 := hT2
      have HK3 := HK2
      have HR3 := HR2
      have q1 : w2.cell? ⟨w.heap.size, 1, none⟩ = some (.slice f.st.A f.st.l.length f.st.c) := HK3.out.cell 1
      obtain ⟨er, fr⟩ := bk1 HR3.out
      have hgr := HR3.out.lt
      go_wp2_with (first | (go_at_call 79; (with_reducible refine (l03Find_any w.heap.size f.ch.A f.ch.l.length f.ch.c f.ch.l ⟨#[120]⟩ x _ Q0.out RCH.out rfl hnc Hx).mono ?_); rintro e w' ⟨rfl, rfl⟩) | (go_at_call 79; (with_reducible refine (l03Find_any w.heap.size f.ch.A f.ch.l.length f.ch.c f.ch.l ⟨#[121]⟩ y _ Q0.out RCH.out rfl hnc Hy).mono ?_); rintro e w' ⟨rfl, rfl⟩) | (go_at_call 79; (with_reducible refine (l03Find_any w.heap.size f.ch.A f.ch.l.length f.ch.c f.ch.l ⟨#[116]⟩ t _ Q0.out RCH.out rfl hnc Ht).mono ?_); rintro e w' ⟨rfl, rfl⟩))
      refine bodyPost_ret (by simp [results, Try.results42, go_sem, *]; try rfl) rfl ?_
      exact ⟨none, 0, [], rfl, rfl, InkOwn.nil _ _ _, by have hT9 := hT3; go_grown⟩
  · clear hno
    go_enter Try.func42, Try.ntmps42
    go_wp2_with fail
    refine (sOk_L _ f p true _ (FBox.of_bk HK.out) HA.out hp hs ht HV).mono ?_
    rintro e w2 ⟨rfl, hb2⟩
    have hT2 : Below w.heap.size w w2 := Below.next (by go_grown) hb2
    have HK2 := Lib.hid (HK.out.next hb2)
    have HR2 := Lib.hid (HR0.out.next hb2)
    have HA2 := Lib.hid (HA.out.below hb2)
    have RCH : Hid (Rd w2 f.ch.A f.ch.l.length 4 (rowOf chC f.ch.l)) := HA2.out.ch.1
    have RCHd : Hid (Rd w2.drew f.ch.A f.ch.l.length 4 (rowOf chC f.ch.l)) := HA2.out.ch.1
    have ql := HK2.out.lt
    have q0 : w2.cell? ⟨w.heap.size, 0, none⟩ = some (.slice f.ch.A f.ch.l.length f.ch.c) := HK2.out.cell 0
    have Q0 := Lib.hid q0
    clear hb2
    have hT3 := hT2
    have HK3 := HK2
    have HR3 := HR2
    have q1 : w2.cell? ⟨w.heap.size, 1, none⟩ = some (.slice f.st.A f.st.l.length f.st.c) := HK3.out.cell 1
    obtain ⟨er, fr⟩ := bk1 HR3.out
    have hgr := HR3.out.lt
    go_wp2_with (first | (go_at_call 79; (with_reducible refine (l03Find_any w.heap.size f.ch.A f.ch.l.length f.ch.c f.ch.l ⟨#[120]⟩ x _ Q0.out RCH.out rfl hnc Hx).mono ?_); rintro e w' ⟨rfl, rfl⟩) | (go_at_call 79; (with_reducible refine (l03Find_any w.heap.size f.ch.A f.ch.l.length f.ch.c f.ch.l ⟨#[121]⟩ y _ Q0.out RCH.out rfl hnc Hy).mono ?_); rintro e w' ⟨rfl, rfl⟩) | (go_at_call 79; (with_reducible refine (l03Find_any w.heap.size f.ch.A f.ch.l.length f.ch.c f.ch.l ⟨#[116]⟩ t _ Q0.out RCH.out rfl hnc Ht).mono ?_); rintro e w' ⟨rfl, rfl⟩))
    refine bodyPost_ret (by simp [results, Try.results42, go_sem, *]; try rfl) rfl ?_
    exact ⟨none, 0, [], rfl, rfl, InkOwn.nil _ _ _, by have hT9 := hT3; go_grown⟩
set_option maxHeartbeats 2000000 in
theorem sIof_unit (f : Fl) (p : FlP) (L : List (List Pt)) (N : Nat) (code : Int) (hok : Is true (FileOk p)) (x y t : Nat) (hx0 : Hid (idxZ p.ch ⟨#[120]⟩ = (x : Int))) (hy0 : Hid (idxZ p.ch ⟨#[121]⟩ = (y : Int))) (ht0 : Hid (idxZ p.ch ⟨#[116]⟩ = (t : Int))) (u0 : ByteArray) (hu0 : Hid ((p.ch.getD t ch0).unit = u0)) (hk : facI u0 = 0) (hR : Hid (iofR true p x y t = (L, code))) (w : World) (h : FileRd w f) (hp : filePl f = p) (hs : PlSz p) (ht : PlTx p) (hN : Hid (L.length = N)) :
    Calls Try.prog 42 #[.agg #[.slice f.ch.A f.ch.l.length f.ch.c, .slice f.st.A f.st.l.length f.st.c, .slice f.no.A f.no.l.length f.no.c]] w fun e w' => ∃ A2 c2 T, e = .returned (.tuple #[.agg #[.slice A2 N c2], .int .i64 code]) ∧ ptsOf T = L ∧ InkOwn w' w.heap.size w'.heap.size (.slice A2 N c2) T ∧ Below w.heap.size w w' := by
  have HP := Lib.hid hp
  have hpc : Hid (f.ch.l = p.ch) := congrArg FlP.ch hp
  have hps : Hid (f.st.l.map rowsK.pl = p.st) := congrArg FlP.st hp
  have HK : Hid (Bk ((w.alloc (.cells #[.slice f.ch.A f.ch.l.length f.ch.c, .slice f.st.A f.st.l.length f.st.c, .slice f.no.A f.no.l.length f.no.c] 30)).alloc (.cells #[.slice none 0 0] 35)) w.heap.size 30 #[.slice f.ch.A f.ch.l.length f.ch.c, .slice f.st.A f.st.l.length f.st.c, .slice f.no.A f.no.l.length f.no.c]) := (Bk.new w _ _).alloc _
  have HR0 : Hid (Bk ((w.alloc (.cells #[.slice f.ch.A f.ch.l.length f.ch.c, .slice f.st.A f.st.l.length f.st.c, .slice f.no.A f.no.l.length f.no.c] 30)).alloc (.cells #[.slice none 0 0] 35)) (w.heap.size + 1) 35 #[.slice none 0 0]) := Bk.new1 w _ _ _
  have HA := Lib.hid ((h.alloc (.cells #[.slice f.ch.A f.ch.l.length f.ch.c, .slice f.st.A f.st.l.length f.st.c, .slice f.no.A f.no.l.length f.no.c] 30)).alloc (.cells #[.slice none 0 0] 35))
  have H0 := Lib.hid h
  have hnc : f.ch.l.length ≤ 1048576 := by rw [hpc.out]; exact hs.ch
  clear h
  have HV := hok
  have HOK := Lib.hid (hok.1 rfl)
  have Hx : Hid (idxZ f.ch.l ⟨#[120]⟩ = (x : Int)) := by rw [Hid, hpc.out]; exact hx0.out
  have Hy : Hid (idxZ f.ch.l ⟨#[121]⟩ = (y : Int)) := by rw [Hid, hpc.out]; exact hy0.out
  have Ht : Hid (idxZ f.ch.l ⟨#[116]⟩ = (t : Int)) := by rw [Hid, hpc.out]; exact ht0.out
  have hxn : x < f.ch.l.length := by have e1 := (idxZ_bd f.ch.l ⟨#[120]⟩).2; rw [Hx.out] at e1; omega
  have hdx : decide ((x : Int) < 0) = false := by simp
  have hxl : (x : Int) < (f.ch.l.length : Int) := by omega
  have hxg : (0 : Int) ≤ (x : Int) := by omega
  have hyn : y < f.ch.l.length := by have e1 := (idxZ_bd f.ch.l ⟨#[121]⟩).2; rw [Hy.out] at e1; omega
  have hdy : decide ((y : Int) < 0) = false := by simp
  have hyl : (y : Int) < (f.ch.l.length : Int) := by omega
  have hyg : (0 : Int) ≤ (y : Int) := by omega
  have htn : t < f.ch.l.length := by have e1 := (idxZ_bd f.ch.l ⟨#[116]⟩).2; rw [Ht.out] at e1; omega
  have hdt : decide ((t : Int) < 0) = false := by simp
  have htl : (t : Int) < (f.ch.l.length : Int) := by omega
  have htg : (0 : Int) ≤ (t : Int) := by omega
  have HU0 : Hid (f.ch.l[t].unit = u0) := by have e1 := hu0.out; rw [← hpc.out, getD_ch htn] at e1; exact e1
  have h2 := hR.out
  rw [iofR_unit (by rw [hu0.out]; exact hk)] at h2
  obtain ⟨e1, e2⟩ : [] = L ∧ (8 : Int) = code := by injection h2 with e1 e2; exact ⟨e1, e2⟩
  subst e1; subst e2
  obtain rfl : 0 = N := hN.out
  clear h2
  have HKF := Lib.hid hk
  clear hk
  go_enter Try.func42, Try.ntmps42
  go_wp2_with fail
  refine (sOk_L _ f p true _ (FBox.of_bk HK.out) HA.out hp hs ht HV).mono ?_
  rintro e w2 ⟨rfl, hb2⟩
  have hT2 : Below w.heap.size w w2 := Below.next (by go_grown) hb2
  have HK2 := Lib.hid (HK.out.next hb2)
  have HR2 := Lib.hid (HR0.out.next hb2)
  have HA2 := Lib.hid (HA.out.below hb2)
  have RCH : Hid (Rd w2 f.ch.A f.ch.l.length 4 (rowOf chC f.ch.l)) := HA2.out.ch.1
  have RCHd : Hid (Rd w2.drew f.ch.A f.ch.l.length 4 (rowOf chC f.ch.l)) := HA2.out.ch.1
  have ql := HK2.out.lt
  have q0 : w2.cell? ⟨w.heap.size, 0, none⟩ = some (.slice f.ch.A f.ch.l.length f.ch.c) := HK2.out.cell 0
  have Q0 := Lib.hid q0
  clear hb2
  have hT3 := hT2
  have HK3 := HK2
  have HR3 := HR2
  have q1 : w2.cell? ⟨w.heap.size, 1, none⟩ = some (.slice f.st.A f.st.l.length f.st.c) := HK3.out.cell 1
  go_upto_region 8 with (first | (go_at_call 79; (with_reducible refine (l03Find_any w.heap.size f.ch.A f.ch.l.length f.ch.c f.ch.l ⟨#[120]⟩ (x : Int) _ Q0.out RCH.out rfl hnc Hx).mono ?_); rintro e w' ⟨rfl, rfl⟩) | (go_at_call 79; (with_reducible refine (l03Find_any w.heap.size f.ch.A f.ch.l.length f.ch.c f.ch.l ⟨#[121]⟩ (y : Int) _ Q0.out RCH.out rfl hnc Hy).mono ?_); rintro e w' ⟨rfl, rfl⟩) | (go_at_call 79; (with_reducible refine (l03Find_any w.heap.size f.ch.A f.ch.l.length f.ch.c f.ch.l ⟨#[116]⟩ (t : Int) _ Q0.out RCH.out rfl hnc Ht).mono ?_); rintro e w' ⟨rfl, rfl⟩))
  obtain ⟨b5, o5, e5, l5, c5⟩ := (H0.out.ch.1.below hT3).at chC_len rfl htn
  have u1 : w2.cell? ⟨b5, o5 + t * 4 + 1, none⟩ = some (.string f.ch.l[t].unit) := c5 1 _ rfl
  rw [HU0.out] at u1
  rw [e5] at q0
  clear c5 e5
  obtain ⟨er, fr⟩ := bk1 HR3.out
  have hgr := HR3.out.lt
  go_wp2_with ((go_at_call 87; refine (l03Factor_any u0 0 _ HKF).mono ?_; rintro e w' ⟨rfl, rfl⟩))
  refine bodyPost_ret (by simp [results, Try.results42, go_sem, *]; try rfl) rfl ?_
  exact ⟨none, 0, [], rfl, rfl, InkOwn.nil _ _ _, by have hT9 := hT3; go_grown⟩
end Go.Proofs.Ytigingjpdlfanaa
