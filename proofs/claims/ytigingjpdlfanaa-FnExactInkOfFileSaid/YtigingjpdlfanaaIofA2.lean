/-
  The ink of a valid file, as the program makes it, hundredths.
-/
import Derived.Test.YtigingjpdlfanaaIofP
namespace Go.Proofs.Ytigingjpdlfanaa
set_option linter.unusedSimpArgs false
set_option linter.unusedVariables false
set_option maxRecDepth 20000
open Go.RowKit
open Go.ChangeShapes Go.WideShapes Go.Deep Go.Joins

set_option maxHeartbeats 2000000 in
theorem iIof_10 (f : Fl) (p : FlP) (L : List (List Pt)) (N : Nat) (code : Int) (hok : Is true (FileOk p)) (x y t : Nat) (hx0 : Hid (idxZ p.ch ⟨#[120]⟩ = (x : Int))) (hy0 : Hid (idxZ p.ch ⟨#[121]⟩ = (y : Int))) (ht0 : Hid (idxZ p.ch ⟨#[116]⟩ = (t : Int))) (u0 : ByteArray) (hu0 : Hid ((p.ch.getD t ch0).unit = u0)) (hun : (u0.toList == [109, 115]) = false ∧ (u0.toList == [99, 115]) = true) (L0 : List (List Pt)) (hL0 : Hid (iofT f.ch.l x y t (10) f.st.l = L0)) (hR : Hid ((if inkB L0 = true then (L0, 0) else ([], 2)) = (L, code))) (w : World) (h : FileRd w f) (hp : filePl f = p) (hs : PlSz p) (ht : PlTx p) (hN : Hid (L.length = N)) :
    Calls Try.prog 43 #[.agg #[.slice f.ch.A f.ch.l.length f.ch.c, .slice f.st.A f.st.l.length f.st.c, .slice f.no.A f.no.l.length f.no.c]] w fun e w' => ∃ A2 c2 T, e = .returned (.tuple #[.agg #[.slice A2 N c2], .int .i64 code]) ∧ ptsOf T = L ∧ InkOwn w' w.heap.size w'.heap.size (.slice A2 N c2) T ∧ Below w.heap.size w w' := by
  have HP := Lib.hid hp
  have hpc : Hid (f.ch.l = p.ch) := congrArg FlP.ch hp
  have hps : Hid (f.st.l.map rowsK.pl = p.st) := congrArg FlP.st hp
  have HK : Hid (Bk ((w.alloc (.cells #[.slice f.ch.A f.ch.l.length f.ch.c, .slice f.st.A f.st.l.length f.st.c, .slice f.no.A f.no.l.length f.no.c] 30)).alloc (.cells #[.slice none 0 0] 35)) w.heap.size 30 #[.slice f.ch.A f.ch.l.length f.ch.c, .slice f.st.A f.st.l.length f.st.c, .slice f.no.A f.no.l.length f.no.c]) := (Bk.new w _ _).alloc _
  have HR0 : Hid (Bk ((w.alloc (.cells #[.slice f.ch.A f.ch.l.length f.ch.c, .slice f.st.A f.st.l.length f.st.c, .slice f.no.A f.no.l.length f.no.c] 30)).alloc (.cells #[.slice none 0 0] 35)) (w.heap.size + 1) 35 #[.slice none 0 0]) := Bk.new1 w _ _ _
  have HA := Lib.hid ((h.alloc (.cells #[.slice f.ch.A f.ch.l.length f.ch.c, .slice f.st.A f.st.l.length f.st.c, .slice f.no.A f.no.l.length f.no.c] 30)).alloc (.cells #[.slice none 0 0] 35))
  have H0 := Lib.hid h
  have hnc : f.ch.l.length ≤ 1048576 := by rw [hpc.out]; exact hs.ch
  clear h
  have HV := hok
  have HOK := Lib.hid (hok.1 rfl)
  have Hx : Hid (idxZ f.ch.l ⟨#[120]⟩ = (x : Int)) := by rw [Hid, hpc.out]; exact hx0.out
  have Hy : Hid (idxZ f.ch.l ⟨#[121]⟩ = (y : Int)) := by rw [Hid, hpc.out]; exact hy0.out
  have Ht : Hid (idxZ f.ch.l ⟨#[116]⟩ = (t : Int)) := by rw [Hid, hpc.out]; exact ht0.out
  have hxn : x < f.ch.l.length := by have e1 := (idxZ_bd f.ch.l ⟨#[120]⟩).2; rw [Hx.out] at e1; omega
  have hdx : decide ((x : Int) < 0) = false := by simp
  have hxl : (x : Int) < (f.ch.l.length : Int) := by omega
  have hxg : (0 : Int) ≤ (x : Int) := by omega
  have hyn : y < f.ch.l.length := by have e1 := (idxZ_bd f.ch.l ⟨#[121]⟩).2; rw [Hy.out] at e1; omega
  have hdy : decide ((y : Int) < 0) = false := by simp
  have hyl : (y : Int) < (f.ch.l.length : Int) := by omega
  have hyg : (0 : Int) ≤ (y : Int) := by omega
  have htn : t < f.ch.l.length := by have e1 := (idxZ_bd f.ch.l ⟨#[116]⟩).2; rw [Ht.out] at e1; omega
  have hdt : decide ((t : Int) < 0) = false := by simp
  have htl : (t : Int) < (f.ch.l.length : Int) := by omega
  have htg : (0 : Int) ≤ (t : Int) := by omega
  have HU0 : Hid (f.ch.l[t].unit = u0) := by have e1 := hu0.out; rw [← hpc.out, getD_ch htn] at e1; exact e1
  obtain ⟨g1, g2⟩ := hun
  obtain ⟨m, hm⟩ : ∃ m, f.st.l.length = m := ⟨_, rfl⟩
  have hm16 : m ≤ 16 := by have h1 := HOK.out.s16; rw [← hps.out, List.length_map, hm] at h1; exact h1
  have LM := Lib.hid hm
  clear hm
  go_enter Try.func43, Try.ntmps43
  go_wp2_with fail
  refine (iValid_L f p true _ HA.out hp hs ht HV).mono ?_
  rintro e w2 ⟨rfl, hb2⟩
  have hT2 : Below w.heap.size w w2 := Below.next (by go_grown) hb2
  have HK2 := Lib.hid (HK.out.next hb2)
  have HR2 := Lib.hid (HR0.out.next hb2)
  have HA2 := Lib.hid (HA.out.below hb2)
  have RCH : Hid (Rd w2 f.ch.A f.ch.l.length 4 (rowOf chC f.ch.l)) := HA2.out.ch.1
  have RCHd : Hid (Rd w2.drew f.ch.A f.ch.l.length 4 (rowOf chC f.ch.l)) := HA2.out.ch.1
  have ql := HK2.out.lt
  have q0 : w2.cell? ⟨w.heap.size, 0, none⟩ = some (.slice f.ch.A f.ch.l.length f.ch.c) := HK2.out.cell 0
  have Q0 := Lib.hid q0
  clear hb2
  go_wp2_with fail
  refine wp_region_held_drew (S := (fun w' => (∀ kb ko, kb < w2.heap.size → w'.cell? ⟨kb, ko, none⟩ = w2.cell? ⟨kb, ko, none⟩) ∧ w2.heap.size ≤ w'.heap.size ∧ Below w2.heap.size w2 w')) (by kernel_rfl) ?_ (fun hHeld => ?_)
  · (try dsimp only); (first | exact SB.mk hkB | exact SB.mk ((Below.refl _ _).drew) | (go_split_ands; refine SB.mk (Below.drew ?_); assumption) | (refine SB.mk ?_; go_grown; done) | (go_split_ands; refine SB.mk ?_; go_grown; done))
  first | (refine take_on (i := 0) (v := ?_) rfl (by kernel_rfl) (by kernel_rfl) (by kernel_rfl) (fun _ _ _ h => h) rfl ?_ (by assumption) ?_; rotate_left; · (intro w' hSw; (try dsimp only at hSw); go_simp; (try with_reducible rfl))) | (refine take_off (i := 0) rfl (by kernel_rfl) (by kernel_rfl) (by kernel_rfl) (fun _ _ _ h => h) rfl (by assumption) ?_)
  (try simp only [Act.put, List.setIfInBounds_toArray, List.set_cons_zero, List.set_cons_succ])
  first | (refine take_on (i := 1) (v := ?_) rfl (by kernel_rfl) (by kernel_rfl) (by kernel_rfl) (fun _ _ _ h => h) rfl ?_ (by assumption) ?_; rotate_left; · (intro w' hSw; (try dsimp only at hSw); go_simp; (try with_reducible rfl))) | (refine take_off (i := 1) rfl (by kernel_rfl) (by kernel_rfl) (by kernel_rfl) (fun _ _ _ h => h) rfl (by assumption) ?_)
  (try simp only [Act.put, List.setIfInBounds_toArray, List.set_cons_zero, List.set_cons_succ])
  first | (refine take_on (i := 3) (v := ?_) rfl (by kernel_rfl) (by kernel_rfl) (by kernel_rfl) (fun _ _ _ h => h) rfl ?_ (by assumption) ?_; rotate_left; · (intro w' hSw; (try dsimp only at hSw); go_simp; (try with_reducible rfl))) | (refine take_off (i := 3) rfl (by kernel_rfl) (by kernel_rfl) (by kernel_rfl) (fun _ _ _ h => h) rfl (by assumption) ?_)
  (try simp only [Act.put, List.setIfInBounds_toArray, List.set_cons_zero, List.set_cons_succ])
  first | (refine take_on (i := 4) (v := ?_) rfl (by kernel_rfl) (by kernel_rfl) (by kernel_rfl) (fun _ _ _ h => h) rfl ?_ (by assumption) ?_; rotate_left; · (intro w' hSw; (try dsimp only at hSw); go_simp; (try with_reducible rfl))) | (refine take_off (i := 4) rfl (by kernel_rfl) (by kernel_rfl) (by kernel_rfl) (fun _ _ _ h => h) rfl (by assumption) ?_)
  (try simp only [Act.put, List.setIfInBounds_toArray, List.set_cons_zero, List.set_cons_succ])
  first | (refine take_on (i := 6) (v := ?_) rfl (by kernel_rfl) (by kernel_rfl) (by kernel_rfl) (fun _ _ _ h => h) rfl ?_ (by assumption) ?_; rotate_left; · (intro w' hSw; (try dsimp only at hSw); go_simp; (try with_reducible rfl))) | (refine take_off (i := 6) rfl (by kernel_rfl) (by kernel_rfl) (by kernel_rfl) (fun _ _ _ h => h) rfl (by assumption) ?_)
  (try simp only [Act.put, List.setIfInBounds_toArray, List.set_cons_zero, List.set_cons_succ])
  first | (refine take_on (i := 7) (v := ?_) rfl (by kernel_rfl) (by kernel_rfl) (by kernel_rfl) (fun _ _ _ h => h) rfl ?_ (by assumption) ?_; rotate_left; · (intro w' hSw; (try dsimp only at hSw); go_simp; (try with_reducible rfl))) | (refine take_off (i := 7) rfl (by kernel_rfl) (by kernel_rfl) (by kernel_rfl) (fun _ _ _ h => h) rfl (by assumption) ?_)
  (try simp only [Act.put, List.setIfInBounds_toArray, List.set_cons_zero, List.set_cons_succ])
  refine wpAnyH_ready (rs := [2]) (by kernel_rfl) (by simp) ?_
  refine AllReadyH.cons rfl (fun K hK => ?_) AllReadyH.nil
  rw [if_pos (by rfl)]
  go_simp
  first | (go_at_call 75; (with_reducible refine (indexOf_any f.ch.A f.ch.l.length f.ch.c f.ch.l ⟨#[120]⟩ (x : Int) _ RCHd.out rfl hnc Hx).mono ?_); rintro e wA ⟨rfl, hb⟩; have hkB : Below w2.heap.size w2 wA := Below.next (by go_grown) hb; clear hb) | (go_at_call 75; (with_reducible refine (indexOf_any f.ch.A f.ch.l.length f.ch.c f.ch.l ⟨#[121]⟩ (y : Int) _ (RCH.out.below hkB) rfl hnc Hy).mono ?_); rintro e wB ⟨rfl, hb⟩; have hkB' : Below w2.heap.size w2 wB := Below.next hkB hb; clear hb hkB; have hkB := hkB'; clear hkB') | (go_at_call 75; (with_reducible refine (indexOf_any f.ch.A f.ch.l.length f.ch.c f.ch.l ⟨#[116]⟩ (t : Int) _ (RCH.out.below hkB) rfl hnc Ht).mono ?_); rintro e wC ⟨rfl, hb⟩; have hkB' : Below w2.heap.size w2 wC := Below.next hkB hb; clear hb hkB; have hkB := hkB'; clear hkB')
  refine hK.out _ _ ?_ (fun hHeld2 => ?_)
  · (try dsimp only); (first | exact SB.mk hkB | exact SB.mk ((Below.refl _ _).drew) | (go_split_ands; refine SB.mk (Below.drew ?_); assumption) | (refine SB.mk ?_; go_grown; done) | (go_split_ands; refine SB.mk ?_; go_grown; done))
  clear hK K hHeld; have hHeld := hHeld2; clear hHeld2; (try simp only [Act.put, List.setIfInBounds_toArray, List.set_cons_zero, List.set_cons_succ])
  refine wpAnyH_ready (rs := [5]) (by kernel_rfl) (by simp) ?_
  refine AllReadyH.cons rfl (fun K hK => ?_) AllReadyH.nil
  rw [if_pos (by rfl)]
  go_simp
  first | (go_at_call 75; (with_reducible refine (indexOf_any f.ch.A f.ch.l.length f.ch.c f.ch.l ⟨#[120]⟩ (x : Int) _ RCHd.out rfl hnc Hx).mono ?_); rintro e wA ⟨rfl, hb⟩; have hkB : Below w2.heap.size w2 wA := Below.next (by go_grown) hb; clear hb) | (go_at_call 75; (with_reducible refine (indexOf_any f.ch.A f.ch.l.length f.ch.c f.ch.l ⟨#[121]⟩ (y : Int) _ (RCH.out.below hkB) rfl hnc Hy).mono ?_); rintro e wB ⟨rfl, hb⟩; have hkB' : Below w2.heap.size w2 wB := Below.next hkB hb; clear hb hkB; have hkB := hkB'; clear hkB') | (go_at_call 75; (with_reducible refine (indexOf_any f.ch.A f.ch.l.length f.ch.c f.ch.l ⟨#[116]⟩ (t : Int) _ (RCH.out.below hkB) rfl hnc Ht).mono ?_); rintro e wC ⟨rfl, hb⟩; have hkB' : Below w2.heap.size w2 wC := Below.next hkB hb; clear hb hkB; have hkB := hkB'; clear hkB')
  refine hK.out _ _ ?_ (fun hHeld2 => ?_)
  · (try dsimp only); (first | exact SB.mk hkB | exact SB.mk ((Below.refl _ _).drew) | (go_split_ands; refine SB.mk (Below.drew ?_); assumption) | (refine SB.mk ?_; go_grown; done) | (go_split_ands; refine SB.mk ?_; go_grown; done))
  clear hK K hHeld; have hHeld := hHeld2; clear hHeld2; (try simp only [Act.put, List.setIfInBounds_toArray, List.set_cons_zero, List.set_cons_succ])
  refine wpAnyH_ready (rs := [8]) (by kernel_rfl) (by simp) ?_
  refine AllReadyH.cons rfl (fun K hK => ?_) AllReadyH.nil
  rw [if_pos (by rfl)]
  go_simp
  first | (go_at_call 75; (with_reducible refine (indexOf_any f.ch.A f.ch.l.length f.ch.c f.ch.l ⟨#[120]⟩ (x : Int) _ RCHd.out rfl hnc Hx).mono ?_); rintro e wA ⟨rfl, hb⟩; have hkB : Below w2.heap.size w2 wA := Below.next (by go_grown) hb; clear hb) | (go_at_call 75; (with_reducible refine (indexOf_any f.ch.A f.ch.l.length f.ch.c f.ch.l ⟨#[121]⟩ (y : Int) _ (RCH.out.below hkB) rfl hnc Hy).mono ?_); rintro e wB ⟨rfl, hb⟩; have hkB' : Below w2.heap.size w2 wB := Below.next hkB hb; clear hb hkB; have hkB := hkB'; clear hkB') | (go_at_call 75; (with_reducible refine (indexOf_any f.ch.A f.ch.l.length f.ch.c f.ch.l ⟨#[116]⟩ (t : Int) _ (RCH.out.below hkB) rfl hnc Ht).mono ?_); rintro e wC ⟨rfl, hb⟩; have hkB' : Below w2.heap.size w2 wC := Below.next hkB hb; clear hb hkB; have hkB := hkB'; clear hkB')
  refine hK.out _ _ ?_ (fun hHeld2 => ?_)
  · (try dsimp only); (first | exact SB.mk hkB | exact SB.mk ((Below.refl _ _).drew) | (go_split_ands; refine SB.mk (Below.drew ?_); assumption) | (refine SB.mk ?_; go_grown; done) | (go_split_ands; refine SB.mk ?_; go_grown; done))
  clear hK K hHeld; have hHeld := hHeld2; clear hHeld2; (try simp only [Act.put, List.setIfInBounds_toArray, List.set_cons_zero, List.set_cons_succ])
  first | (refine take_on (i := 9) (v := ?_) rfl (by kernel_rfl) (by kernel_rfl) (by kernel_rfl) (fun _ _ _ h => h) rfl ?_ (by assumption) ?_; rotate_left; · (intro w' hSw; (try dsimp only at hSw); go_simp; (try with_reducible rfl))) | (refine take_off (i := 9) rfl (by kernel_rfl) (by kernel_rfl) (by kernel_rfl) (fun _ _ _ h => h) rfl (by assumption) ?_)
  (try simp only [Act.put, List.setIfInBounds_toArray, List.set_cons_zero, List.set_cons_succ])
  first | (refine take_on (i := 10) (v := ?_) rfl (by kernel_rfl) (by kernel_rfl) (by kernel_rfl) (fun _ _ _ h => h) rfl ?_ (by assumption) ?_; rotate_left; · (intro w' hSw; (try dsimp only at hSw); go_simp; (try with_reducible rfl))) | (refine take_off (i := 10) rfl (by kernel_rfl) (by kernel_rfl) (by kernel_rfl) (fun _ _ _ h => h) rfl (by assumption) ?_)
  (try simp only [Act.put, List.setIfInBounds_toArray, List.set_cons_zero, List.set_cons_succ])
  first | (refine take_on (i := 11) (v := ?_) rfl (by kernel_rfl) (by kernel_rfl) (by kernel_rfl) (fun _ _ _ h => h) rfl ?_ (by assumption) ?_; rotate_left; · (intro w' hSw; (try dsimp only at hSw); go_simp; (try with_reducible rfl))) | (refine take_off (i := 11) rfl (by kernel_rfl) (by kernel_rfl) (by kernel_rfl) (fun _ _ _ h => h) rfl (by assumption) ?_)
  (try simp only [Act.put, List.setIfInBounds_toArray, List.set_cons_zero, List.set_cons_succ])
  refine wpAnyH_done (by kernel_rfl) ?_ _
  have hhB : Below w2.heap.size w2 wC := hHeld.2.2
  clear hHeld hkB
  obtain ⟨w3, rfl⟩ : ∃ x, x = wC := ⟨wC, rfl⟩
  have hT3 : Below w.heap.size w w3 := Below.next hT2 hhB
  have HK3 := Lib.hid (HK2.out.next hhB)
  have HR3 := Lib.hid (HR2.out.next hhB)
  clear q0 ql hhB
  have q0 : w3.cell? ⟨w.heap.size, 0, none⟩ = some (.slice f.ch.A f.ch.l.length f.ch.c) := HK3.out.cell 0
  have q1 : w3.cell? ⟨w.heap.size, 1, none⟩ = some (.slice f.st.A f.st.l.length f.st.c) := HK3.out.cell 1
  have ql := HK3.out.lt
  obtain ⟨b5, o5, e5, l5, c5⟩ := (H0.out.ch.1.below hT3).at chC_len rfl htn
  have u1 : w3.cell? ⟨b5, o5 + t * 4 + 1, none⟩ = some (.string f.ch.l[t].unit) := c5 1 _ rfl
  rw [HU0.out] at u1
  rw [e5] at q0
  clear c5 e5
  rw [LM.out] at q1
  go_wp2_with fail
  clear q0 q1 u1
  go_loopw [54] (fun i wo => ∃ (k' : Nat) (v : Value) (T : List St), k' ≤ m ∧ i = .int .i64 (k' : Int) ∧ Bk wo w3.heap.size 35 #[v] ∧ Hid (T.length = k') ∧ Hid (ptsOf T = iofT f.ch.l x y t (10) (f.st.l.take k')) ∧ Hid (InkOwn wo (w3.heap.size + 1) wo.heap.size v T) ∧ Below w3.heap.size (w3.alloc (.cells #[.slice none 0 0] 35)) wo) (fun i _ => m - (intOf i).toNat)
  case atStart => exact ⟨0, .slice none 0 0, [], Nat.zero_le _, rfl, Bk.new w3 _ _, rfl, rfl, InkOwn.nil _ _ _, Below.refl _ _⟩
  case round =>
    obtain ⟨wo, rfl⟩ : ∃ wo, wo = wr := ⟨wr, rfl⟩
    obtain ⟨kk, v, T, hk, rfl, hbk, hT, hpt, hin, hW⟩ := hrel
    have hWs := hW.size
    simp only [World.size_alloc] at hWs
    have hW0 : Below w.heap.size w wo := Below.next hT3 (((Below.refl _ _).alloc (Nat.le_refl _) _).trans hW)
    have hW0s := hW0.size
    obtain ⟨eo, fo⟩ := bk1 hbk
    have hgl := hbk.lt
    have HKo := Lib.hid (((HK3.out.alloc (.cells #[.slice none 0 0] 35)).below hW ql))
    have hlo : w.heap.size < wo.heap.size := by omega
    by_cases hlt : kk < m
    · have ka : kk < f.st.l.length := by rw [LM.out]; exact hlt
      obtain ⟨b1, o1, e1, l1, c0⟩ := H0.out.st.1.at hdC_len rfl ka
      have d0 : w.cell? ⟨b1, o1 + kk, none⟩ = some (.slice f.st.l[kk].A f.st.l[kk].l.length f.st.l[kk].c) := by simpa [Sl.val] using c0 0 _ rfl
      have d1 : wo.cell? ⟨b1, o1 + kk, none⟩ = some (.slice f.st.l[kk].A f.st.l[kk].l.length f.st.l[kk].c) := (hW0.cell (p := ⟨b1, o1 + kk, none⟩) l1).trans d0
      have l1o : b1 < wo.heap.size := by omega
      have hin0 := H0.out.st.2 _ (List.getElem_mem ka)
      obtain ⟨_, h60, hrows⟩ := stOk_at HOK.out HP.out ka
      have HLE : Hid (∀ (q : St), q.l = f.st.l[kk].l.map (fun r => ptR f.ch.l x y t (10) r.l) → ptsOf (T ++ [q]) = iofT f.ch.l x y t (10) (f.st.l.take (kk + 1))) := fun q hq => iofT_next ka hpt.out q hq
      obtain ⟨Ar, cr, l, hr⟩ : ∃ Ar cr l, f.st.l[kk] = ⟨Ar, cr, l⟩ := ⟨f.st.l[kk].A, f.st.l[kk].c, f.st.l[kk].l, rfl⟩
      rw [hr] at d0 d1 hin0 h60 HLE
      have hrows2 : ∀ j (h : j < l.length), RowOk f.ch.l l[j].l := by rw [hr] at hrows; exact hrows
      simp only [] at d0 d1 h60 HLE
      obtain ⟨q, hq⟩ : ∃ q, l.length = q := ⟨_, rfl⟩
      have rm : Rd w Ar l.length 1 (rowOf hdC l) := hin0.1
      have rm2 : ∀ a ∈ l, rowK.rd w a := hin0.2
      rw [hq] at rm d0 d1 h60
      have RM := Lib.hid rm
      have RM2 := Lib.hid rm2
      have LQ := Lib.hid hq
      have HROW := Lib.hid hrows2
      have hk0' : (0 : Int) ≤ (kk : Int) := by omega
      have hkn' : (kk : Int) < (m : Int) := by omega
      have E1 := Lib.hid e1
      have D0 := Lib.hid d0
      rw [e1]
      have HI0 : Hid (Bk ((wo.alloc (.cells #[.slice Ar q cr] 82)).alloc (.cells #[.slice none 0 0] 85)) (wo.heap.size + 1) 85 #[.slice none 0 0]) := Bk.new1 wo _ _ _
      clear c0 hin0 hr rm rm2 hq hrows hrows2 e1 d0
      go_wp2_with fail
      go_loopw [61] (fun i wr => ∃ (j : Nat) (u : Value), j ≤ q ∧ i = .int .i64 (j : Int) ∧ Bk wr (wo.heap.size + 1) 85 #[u] ∧ Own ptC 87 3 wr ((wo.heap.size + 1) + 1) u (stI f.ch.l x y t (10) l j) ∧ Below (wo.heap.size + 1) ((wo.alloc (.cells #[.slice Ar q cr] 82)).alloc (.cells #[.slice none 0 0] 85)) wr) (fun i _ => q - (intOf i).toNat)
      case atStart => exact ⟨0, .slice none 0 0, Nat.zero_le _, rfl, HI0.out, Own.nil _ _ _ _ _, Below.refl _ _⟩
      case round =>
        obtain ⟨j, u, hj, rfl, hbk2, hown, hB⟩ := hrel
        have hgl2 := hbk2.lt
        have hBs := hB.size
        simp only [World.size_alloc] at hBs
        have HO := Lib.hid hown
        have HI : Hid (∀ k, u.ownBlock = some k → (wo.heap.size + 1) + 1 ≤ k ∧ k < wr.heap.size) := hown.lt
        obtain ⟨e0, f0⟩ := bk1 hbk2
        clear hown
        have hB0 : Below wo.heap.size wo wr := (by go_grown : Below wo.heap.size wo ((wo.alloc (.cells #[.slice Ar q cr] 82)).alloc (.cells #[.slice none 0 0] 85))).trans (hB.mono (by omega))
        have hWr : Below w.heap.size w wr := hW0.trans (hB0.mono (by omega))
        have HKr := Lib.hid (HKo.out.next hB0)
        have hlr : w.heap.size < wr.heap.size := HKr.out.lt
        by_cases hjlt : j < q
        · have kj : j < l.length := by rw [LQ.out]; exact hjlt
          obtain ⟨b2, o2, e2, l2, c1⟩ := RM.out.at hdC_len LQ.out kj
          have d2 : wr.cell? ⟨b2, o2 + j, none⟩ = some (.slice l[j].A l[j].l.length l[j].c) := (hWr.cell (p := ⟨b2, o2 + j, none⟩) l2).trans (by simpa [Sl.val] using c1 0 _ rfl)
          have hinr := (RM2.out _ (List.getElem_mem kj)).1
          have hrow := HROW.out j kj
          obtain ⟨qq, hqq⟩ : ∃ qq, ptR f.ch.l x y t (10) l[j].l = qq := ⟨_, rfl⟩
          have HN0 := stI_next kj hqq
          obtain ⟨A3, c3, rr, hr⟩ : ∃ A3 c3 r, l[j] = ⟨A3, c3, r⟩ := ⟨l[j].A, l[j].c, l[j].l, rfl⟩
          rw [hr] at d2 hinr hrow hqq
          simp only [] at d2 hinr hrow hqq
          have hxr : x < rr.length := by rw [hrow.1]; exact hxn
          have hyr : y < rr.length := by rw [hrow.1]; exact hyn
          have htr : t < rr.length := by rw [hrow.1]; exact htn
          obtain ⟨b3, o3, e3, l3, c4⟩ := hinr.at iC_len rfl hxr
          obtain ⟨b3', o3', e4, _, c5⟩ := hinr.at iC_len rfl hyr
          obtain ⟨b3'', o3'', e6, _, c6⟩ := hinr.at iC_len rfl htr
          rw [e3] at e4 e6
          cases e4; cases e6
          have dx : wr.cell? ⟨b3, o3 + x, none⟩ = some (.int .i64 rr[x]) := (hWr.cell (p := ⟨b3, o3 + x, none⟩) l3).trans (by simpa using c4 0 _ rfl)
          have dy : wr.cell? ⟨b3, o3 + y, none⟩ = some (.int .i64 rr[y]) := (hWr.cell (p := ⟨b3, o3 + y, none⟩) l3).trans (by simpa using c5 0 _ rfl)
          have dt : wr.cell? ⟨b3, o3 + t, none⟩ = some (.int .i64 rr[t]) := (hWr.cell (p := ⟨b3, o3 + t, none⟩) l3).trans (by simpa using c6 0 _ rfl)
          obtain ⟨vx, hvx⟩ : ∃ z, rr[x] = z := ⟨_, rfl⟩
          obtain ⟨vy, hvy⟩ : ∃ z, rr[y] = z := ⟨_, rfl⟩
          have hcx := chIn_row (chs_ok HOK.out HP.out) hrow hxn hxr
          have hcy := chIn_row (chs_ok HOK.out HP.out) hrow hyn hyr
          rw [hvx] at dx hcx
          rw [hvy] at dy hcy
          have HCX := Lib.hid hcx
          have HCY := Lib.hid hcy
          obtain ⟨z1, z2, z3, z4, z5⟩ := chIn_row (chs_ok HOK.out HP.out) hrow htn htr
          obtain ⟨z, hz⟩ : ∃ z, rr[t] = z := ⟨_, rfl⟩
          rw [hz] at dt z4 z5
          have hza : -1000000000 ≤ z := by omega
          have hzb : z ≤ 1000000000 := by omega
          obtain ⟨X, hX⟩ : ∃ X, coI f.ch.l[x] vx = X := ⟨_, rfl⟩
          obtain ⟨Y, hY⟩ : ∃ Y, coI f.ch.l[y] vy = Y := ⟨_, rfl⟩
          have HXX := Lib.hid hX
          have HYY := Lib.hid hY
          have hqe : qq = ⟨X, Y, z * 10⟩ := by
            rw [← hqq]
            unfold ptR
            rw [getD_ch hxn, getD_ch hyn, getD_in hxr, getD_in hyr, getD_in htr, hvx, hvy, hX, hY, hz]
            simp [Int.mul_comm]
          have HN : Hid (stI f.ch.l x y t (10) l (j + 1) = stI f.ch.l x y t (10) l j ++ [⟨X, Y, z * 10⟩]) := by rw [Hid, HN0, hqe]
          obtain ⟨b5, o5, e5, l5, c7⟩ := H0.out.ch.1.at chC_len rfl hxn
          obtain ⟨b6, o6, e7, _, c8⟩ := H0.out.ch.1.at chC_len rfl hyn
          rw [e5] at e7
          cases e7
          have gx0 : wr.cell? ⟨b5, o5 + x * 4, none⟩ = some (.string f.ch.l[x].name) := (hWr.cell (p := ⟨b5, o5 + x * 4, none⟩) l5).trans (c7 0 _ rfl)
          have gx1 : wr.cell? ⟨b5, o5 + x * 4 + 1, none⟩ = some (.string f.ch.l[x].unit) := (hWr.cell (p := ⟨b5, o5 + x * 4 + 1, none⟩) l5).trans (c7 1 _ rfl)
          have gx2 : wr.cell? ⟨b5, o5 + x * 4 + 2, none⟩ = some (.int .i64 f.ch.l[x].low) := (hWr.cell (p := ⟨b5, o5 + x * 4 + 2, none⟩) l5).trans (c7 2 _ rfl)
          have gx3 : wr.cell? ⟨b5, o5 + x * 4 + 3, none⟩ = some (.int .i64 f.ch.l[x].high) := (hWr.cell (p := ⟨b5, o5 + x * 4 + 3, none⟩) l5).trans (c7 3 _ rfl)
          have gy0 : wr.cell? ⟨b5, o5 + y * 4, none⟩ = some (.string f.ch.l[y].name) := (hWr.cell (p := ⟨b5, o5 + y * 4, none⟩) l5).trans (c8 0 _ rfl)
          have gy1 : wr.cell? ⟨b5, o5 + y * 4 + 1, none⟩ = some (.string f.ch.l[y].unit) := (hWr.cell (p := ⟨b5, o5 + y * 4 + 1, none⟩) l5).trans (c8 1 _ rfl)
          have gy2 : wr.cell? ⟨b5, o5 + y * 4 + 2, none⟩ = some (.int .i64 f.ch.l[y].low) := (hWr.cell (p := ⟨b5, o5 + y * 4 + 2, none⟩) l5).trans (c8 2 _ rfl)
          have gy3 : wr.cell? ⟨b5, o5 + y * 4 + 3, none⟩ = some (.int .i64 f.ch.l[y].high) := (hWr.cell (p := ⟨b5, o5 + y * 4 + 3, none⟩) l5).trans (c8 3 _ rfl)
          have q0r : wr.cell? ⟨w.heap.size, 0, none⟩ = some (.slice (some ⟨b5, o5, none⟩) f.ch.l.length f.ch.c) := by rw [← e5]; exact HKr.out.cell 0
          obtain ⟨tl, htl⟩ : ∃ tl, rr.length = tl := ⟨_, rfl⟩
          rw [e3, htl] at d2
          have hxt : (x : Int) < (tl : Int) := by rw [← htl]; omega
          have hyt : (y : Int) < (tl : Int) := by rw [← htl]; omega
          have htt : (t : Int) < (tl : Int) := by rw [← htl]; omega
          have htlb : tl ≤ 1048576 := by have := hrow.1; omega
          have hj0 : (0 : Int) ≤ (j : Int) := by omega
          have hjn : (j : Int) < (q : Int) := by omega
          have l3r : b3 < wr.heap.size := by omega
          have l5r : b5 < wr.heap.size := by omega
          have l2r : b2 < wr.heap.size := by omega
          have hu3 : ¬ u.ownBlock = some b3 := fun e => by have h2 := HI.out _ e; omega
          have hu5 : ¬ u.ownBlock = some b5 := fun e => by have h2 := HI.out _ e; omega
          have hu6 : ¬ u.ownBlock = some w.heap.size := fun e => by have h2 := HI.out _ e; omega
          have hn3 : ¬ b3 = (wo.heap.size + 1) := by omega
          have hn5 : ¬ b5 = (wo.heap.size + 1) := by omega
          have hn6 : ¬ w.heap.size = (wo.heap.size + 1) := by omega
          have E2 := Lib.hid e2
          rw [e2]
          clear hcx hcy hvx hvy c1 hinr hrow hr hqq hxr hyr htr e3 c4 c5 c6 z1 z2 z3 z4 z5 hz hX hY hqe HN0 c7 c8 e5 htl e2
          have hmw : IntKind.i64.wrap (z * 10) = z * 10 := IntWalk.i64_in _ (by omega)
          go_wp2_with fail
          refine wp_region_held_drew (S := (fun w' => (∀ kb ko, kb < wr.heap.size → ¬ u.ownBlock = some kb → ¬ kb = (wo.heap.size + 1) → w'.cell? ⟨kb, ko, none⟩ = wr.cell? ⟨kb, ko, none⟩) ∧ wr.heap.size ≤ w'.heap.size ∧ Below (wo.heap.size + 1) wr w')) (by kernel_rfl) ?_ (fun hHeld => ?_)
          · (try dsimp only); exact S2.mk ((Below.refl _ _).drew) (by omega)
          first | (refine take_on (i := 0) (v := ?_) rfl (by kernel_rfl) (by kernel_rfl) (by kernel_rfl) (fun _ _ _ h => h) rfl ?_ (by assumption) ?_; rotate_left; · (intro w' hSw; (try dsimp only at hSw); go_simp; (try with_reducible rfl))) | (refine take_off (i := 0) rfl (by kernel_rfl) (by kernel_rfl) (by kernel_rfl) (fun _ _ _ h => h) rfl (by assumption) ?_)
          (try simp only [Act.put, List.setIfInBounds_toArray, List.set_cons_zero, List.set_cons_succ])
          first | (refine take_on (i := 2) (v := ?_) rfl (by kernel_rfl) (by kernel_rfl) (by kernel_rfl) (fun _ _ _ h => h) rfl ?_ (by assumption) ?_; rotate_left; · (intro w' hSw; (try dsimp only at hSw); go_simp; (try with_reducible rfl))) | (refine take_off (i := 2) rfl (by kernel_rfl) (by kernel_rfl) (by kernel_rfl) (fun _ _ _ h => h) rfl (by assumption) ?_)
          (try simp only [Act.put, List.setIfInBounds_toArray, List.set_cons_zero, List.set_cons_succ])
          first | (refine take_on (i := 3) (v := ?_) rfl (by kernel_rfl) (by kernel_rfl) (by kernel_rfl) (fun _ _ _ h => h) rfl ?_ (by assumption) ?_; rotate_left; · (intro w' hSw; (try dsimp only at hSw); go_simp; (try with_reducible rfl))) | (refine take_off (i := 3) rfl (by kernel_rfl) (by kernel_rfl) (by kernel_rfl) (fun _ _ _ h => h) rfl (by assumption) ?_)
          (try simp only [Act.put, List.setIfInBounds_toArray, List.set_cons_zero, List.set_cons_succ])
          first | (refine take_on (i := 4) (v := ?_) rfl (by kernel_rfl) (by kernel_rfl) (by kernel_rfl) (fun _ _ _ h => h) rfl ?_ (by assumption) ?_; rotate_left; · (intro w' hSw; (try dsimp only at hSw); go_simp; (try with_reducible rfl))) | (refine take_off (i := 4) rfl (by kernel_rfl) (by kernel_rfl) (by kernel_rfl) (fun _ _ _ h => h) rfl (by assumption) ?_)
          (try simp only [Act.put, List.setIfInBounds_toArray, List.set_cons_zero, List.set_cons_succ])
          first | (refine take_on (i := 5) (v := ?_) rfl (by kernel_rfl) (by kernel_rfl) (by kernel_rfl) (fun _ _ _ h => h) rfl ?_ (by assumption) ?_; rotate_left; · (intro w' hSw; (try dsimp only at hSw); go_simp; (try with_reducible rfl))) | (refine take_off (i := 5) rfl (by kernel_rfl) (by kernel_rfl) (by kernel_rfl) (fun _ _ _ h => h) rfl (by assumption) ?_)
          (try simp only [Act.put, List.setIfInBounds_toArray, List.set_cons_zero, List.set_cons_succ])
          first | (refine take_on (i := 6) (v := ?_) rfl (by kernel_rfl) (by kernel_rfl) (by kernel_rfl) (fun _ _ _ h => h) rfl ?_ (by assumption) ?_; rotate_left; · (intro w' hSw; (try dsimp only at hSw); go_simp; (try with_reducible rfl))) | (refine take_off (i := 6) rfl (by kernel_rfl) (by kernel_rfl) (by kernel_rfl) (fun _ _ _ h => h) rfl (by assumption) ?_)
          (try simp only [Act.put, List.setIfInBounds_toArray, List.set_cons_zero, List.set_cons_succ])
          first | (refine take_on (i := 7) (v := ?_) rfl (by kernel_rfl) (by kernel_rfl) (by kernel_rfl) (fun _ _ _ h => h) rfl ?_ (by assumption) ?_; rotate_left; · (intro w' hSw; (try dsimp only at hSw); go_simp; (try with_reducible rfl))) | (refine take_off (i := 7) rfl (by kernel_rfl) (by kernel_rfl) (by kernel_rfl) (fun _ _ _ h => h) rfl (by assumption) ?_)
          (try simp only [Act.put, List.setIfInBounds_toArray, List.set_cons_zero, List.set_cons_succ])
          first | (refine take_on (i := 8) (v := ?_) rfl (by kernel_rfl) (by kernel_rfl) (by kernel_rfl) (fun _ _ _ h => h) rfl ?_ (by assumption) ?_; rotate_left; · (intro w' hSw; (try dsimp only at hSw); go_simp; (try with_reducible rfl))) | (refine take_off (i := 8) rfl (by kernel_rfl) (by kernel_rfl) (by kernel_rfl) (fun _ _ _ h => h) rfl (by assumption) ?_)
          (try simp only [Act.put, List.setIfInBounds_toArray, List.set_cons_zero, List.set_cons_succ])
          first | (refine take_on (i := 9) (v := ?_) rfl (by kernel_rfl) (by kernel_rfl) (by kernel_rfl) (fun _ _ _ h => h) rfl ?_ (by assumption) ?_; rotate_left; · (intro w' hSw; (try dsimp only at hSw); go_simp; (try with_reducible rfl))) | (refine take_off (i := 9) rfl (by kernel_rfl) (by kernel_rfl) (by kernel_rfl) (fun _ _ _ h => h) rfl (by assumption) ?_)
          (try simp only [Act.put, List.setIfInBounds_toArray, List.set_cons_zero, List.set_cons_succ])
          first | (refine take_on (i := 10) (v := ?_) rfl (by kernel_rfl) (by kernel_rfl) (by kernel_rfl) (fun _ _ _ h => h) rfl ?_ (by assumption) ?_; rotate_left; · (intro w' hSw; (try dsimp only at hSw); go_simp; (try with_reducible rfl))) | (refine take_off (i := 10) rfl (by kernel_rfl) (by kernel_rfl) (by kernel_rfl) (fun _ _ _ h => h) rfl (by assumption) ?_)
          (try simp only [Act.put, List.setIfInBounds_toArray, List.set_cons_zero, List.set_cons_succ])
          first | (refine take_on (i := 12) (v := ?_) rfl (by kernel_rfl) (by kernel_rfl) (by kernel_rfl) (fun _ _ _ h => h) rfl ?_ (by assumption) ?_; rotate_left; · (intro w' hSw; (try dsimp only at hSw); go_simp; (try with_reducible rfl))) | (refine take_off (i := 12) rfl (by kernel_rfl) (by kernel_rfl) (by kernel_rfl) (fun _ _ _ h => h) rfl (by assumption) ?_)
          (try simp only [Act.put, List.setIfInBounds_toArray, List.set_cons_zero, List.set_cons_succ])
          first | (refine take_on (i := 13) (v := ?_) rfl (by kernel_rfl) (by kernel_rfl) (by kernel_rfl) (fun _ _ _ h => h) rfl ?_ (by assumption) ?_; rotate_left; · (intro w' hSw; (try dsimp only at hSw); go_simp; (try with_reducible rfl))) | (refine take_off (i := 13) rfl (by kernel_rfl) (by kernel_rfl) (by kernel_rfl) (fun _ _ _ h => h) rfl (by assumption) ?_)
          (try simp only [Act.put, List.setIfInBounds_toArray, List.set_cons_zero, List.set_cons_succ])
          first | (refine take_on (i := 14) (v := ?_) rfl (by kernel_rfl) (by kernel_rfl) (by kernel_rfl) (fun _ _ _ h => h) rfl ?_ (by assumption) ?_; rotate_left; · (intro w' hSw; (try dsimp only at hSw); go_simp; (try with_reducible rfl))) | (refine take_off (i := 14) rfl (by kernel_rfl) (by kernel_rfl) (by kernel_rfl) (fun _ _ _ h => h) rfl (by assumption) ?_)
          (try simp only [Act.put, List.setIfInBounds_toArray, List.set_cons_zero, List.set_cons_succ])
          first | (refine take_on (i := 15) (v := ?_) rfl (by kernel_rfl) (by kernel_rfl) (by kernel_rfl) (fun _ _ _ h => h) rfl ?_ (by assumption) ?_; rotate_left; · (intro w' hSw; (try dsimp only at hSw); go_simp; (try with_reducible rfl))) | (refine take_off (i := 15) rfl (by kernel_rfl) (by kernel_rfl) (by kernel_rfl) (fun _ _ _ h => h) rfl (by assumption) ?_)
          (try simp only [Act.put, List.setIfInBounds_toArray, List.set_cons_zero, List.set_cons_succ])
          first | (refine take_on (i := 16) (v := ?_) rfl (by kernel_rfl) (by kernel_rfl) (by kernel_rfl) (fun _ _ _ h => h) rfl ?_ (by assumption) ?_; rotate_left; · (intro w' hSw; (try dsimp only at hSw); go_simp; (try with_reducible rfl))) | (refine take_off (i := 16) rfl (by kernel_rfl) (by kernel_rfl) (by kernel_rfl) (fun _ _ _ h => h) rfl (by assumption) ?_)
          (try simp only [Act.put, List.setIfInBounds_toArray, List.set_cons_zero, List.set_cons_succ])
          first | (refine take_on (i := 17) (v := ?_) rfl (by kernel_rfl) (by kernel_rfl) (by kernel_rfl) (fun _ _ _ h => h) rfl ?_ (by assumption) ?_; rotate_left; · (intro w' hSw; (try dsimp only at hSw); go_simp; (try with_reducible rfl))) | (refine take_off (i := 17) rfl (by kernel_rfl) (by kernel_rfl) (by kernel_rfl) (fun _ _ _ h => h) rfl (by assumption) ?_)
          (try simp only [Act.put, List.setIfInBounds_toArray, List.set_cons_zero, List.set_cons_succ])
          first | (refine take_on (i := 18) (v := ?_) rfl (by kernel_rfl) (by kernel_rfl) (by kernel_rfl) (fun _ _ _ h => h) rfl ?_ (by assumption) ?_; rotate_left; · (intro w' hSw; (try dsimp only at hSw); go_simp; (try with_reducible rfl))) | (refine take_off (i := 18) rfl (by kernel_rfl) (by kernel_rfl) (by kernel_rfl) (fun _ _ _ h => h) rfl (by assumption) ?_)
          (try simp only [Act.put, List.setIfInBounds_toArray, List.set_cons_zero, List.set_cons_succ])
          first | (refine take_on (i := 19) (v := ?_) rfl (by kernel_rfl) (by kernel_rfl) (by kernel_rfl) (fun _ _ _ h => h) rfl ?_ (by assumption) ?_; rotate_left; · (intro w' hSw; (try dsimp only at hSw); go_simp; (try with_reducible rfl))) | (refine take_off (i := 19) rfl (by kernel_rfl) (by kernel_rfl) (by kernel_rfl) (fun _ _ _ h => h) rfl (by assumption) ?_)
          (try simp only [Act.put, List.setIfInBounds_toArray, List.set_cons_zero, List.set_cons_succ])
          first | (refine take_on (i := 20) (v := ?_) rfl (by kernel_rfl) (by kernel_rfl) (by kernel_rfl) (fun _ _ _ h => h) rfl ?_ (by assumption) ?_; rotate_left; · (intro w' hSw; (try dsimp only at hSw); go_simp; (try with_reducible rfl))) | (refine take_off (i := 20) rfl (by kernel_rfl) (by kernel_rfl) (by kernel_rfl) (fun _ _ _ h => h) rfl (by assumption) ?_)
          (try simp only [Act.put, List.setIfInBounds_toArray, List.set_cons_zero, List.set_cons_succ])
          first | (refine take_on (i := 22) (v := ?_) rfl (by kernel_rfl) (by kernel_rfl) (by kernel_rfl) (fun _ _ _ h => h) rfl ?_ (by assumption) ?_; rotate_left; · (intro w' hSw; (try dsimp only at hSw); go_simp; (try with_reducible rfl))) | (refine take_off (i := 22) rfl (by kernel_rfl) (by kernel_rfl) (by kernel_rfl) (fun _ _ _ h => h) rfl (by assumption) ?_)
          (try simp only [Act.put, List.setIfInBounds_toArray, List.set_cons_zero, List.set_cons_succ])
          first | (refine take_on (i := 23) (v := ?_) rfl (by kernel_rfl) (by kernel_rfl) (by kernel_rfl) (fun _ _ _ h => h) rfl ?_ (by assumption) ?_; rotate_left; · (intro w' hSw; (try dsimp only at hSw); go_simp; (try with_reducible rfl))) | (refine take_off (i := 23) rfl (by kernel_rfl) (by kernel_rfl) (by kernel_rfl) (fun _ _ _ h => h) rfl (by assumption) ?_)
          (try simp only [Act.put, List.setIfInBounds_toArray, List.set_cons_zero, List.set_cons_succ])
          first | (refine take_on (i := 24) (v := ?_) rfl (by kernel_rfl) (by kernel_rfl) (by kernel_rfl) (fun _ _ _ h => h) rfl ?_ (by assumption) ?_; rotate_left; · (intro w' hSw; (try dsimp only at hSw); go_simp; (try with_reducible rfl))) | (refine take_off (i := 24) rfl (by kernel_rfl) (by kernel_rfl) (by kernel_rfl) (fun _ _ _ h => h) rfl (by assumption) ?_)
          (try simp only [Act.put, List.setIfInBounds_toArray, List.set_cons_zero, List.set_cons_succ])
          first | (refine take_on (i := 25) (v := ?_) rfl (by kernel_rfl) (by kernel_rfl) (by kernel_rfl) (fun _ _ _ h => h) rfl ?_ (by assumption) ?_; rotate_left; · (intro w' hSw; (try dsimp only at hSw); go_simp; (try with_reducible rfl))) | (refine take_off (i := 25) rfl (by kernel_rfl) (by kernel_rfl) (by kernel_rfl) (fun _ _ _ h => h) rfl (by assumption) ?_)
          (try simp only [Act.put, List.setIfInBounds_toArray, List.set_cons_zero, List.set_cons_succ])
          first | (refine take_on (i := 26) (v := ?_) rfl (by kernel_rfl) (by kernel_rfl) (by kernel_rfl) (fun _ _ _ h => h) rfl ?_ (by assumption) ?_; rotate_left; · (intro w' hSw; (try dsimp only at hSw); go_simp; (try with_reducible rfl))) | (refine take_off (i := 26) rfl (by kernel_rfl) (by kernel_rfl) (by kernel_rfl) (fun _ _ _ h => h) rfl (by assumption) ?_)
          (try simp only [Act.put, List.setIfInBounds_toArray, List.set_cons_zero, List.set_cons_succ])
          first | (refine take_on (i := 27) (v := ?_) rfl (by kernel_rfl) (by kernel_rfl) (by kernel_rfl) (fun _ _ _ h => h) rfl ?_ (by assumption) ?_; rotate_left; · (intro w' hSw; (try dsimp only at hSw); go_simp; (try with_reducible rfl))) | (refine take_off (i := 27) rfl (by kernel_rfl) (by kernel_rfl) (by kernel_rfl) (fun _ _ _ h => h) rfl (by assumption) ?_)
          (try simp only [Act.put, List.setIfInBounds_toArray, List.set_cons_zero, List.set_cons_succ])
          refine wpAnyH_ready (rs := [1, 11]) (by kernel_rfl) (by simp) ?_
          refine AllReadyH.cons rfl (fun K hK => ?_) (AllReadyH.cons rfl (fun K hK => ?_) (AllReadyH.nil))
          · rw [if_pos (by rfl)]
            go_simp
            refine hK.out _ _ ?_ (fun hHeld2 => ?_)
            · (try dsimp only); exact hHeld
            clear hK K hHeld; have hHeld := hHeld2; clear hHeld2; (try simp only [Act.put, List.setIfInBounds_toArray, List.set_cons_zero, List.set_cons_succ])
            refine wpAnyH_ready (rs := [11]) (by kernel_rfl) (by simp) ?_
            refine AllReadyH.cons rfl (fun K hK => ?_) AllReadyH.nil
            rw [if_pos (by rfl)]
            go_simp
            go_at_call 89
            (with_reducible refine (coordOf_any f.ch.l[x] vx X _ HCX.out HXX).mono ?_)
            rintro e w4 ⟨rfl, hb4⟩
            have hB4 : Below wr.heap.size wr w4 := Below.next (by go_grown) hb4
            have hz4 := hB4.size
            have HO4 : Hid (Own ptC 87 3 w4 ((wo.heap.size + 1) + 1) u (stI f.ch.l x y t (10) l j)) := HO.out.next hB4
            have hbk4 : Bk w4 (wo.heap.size + 1) 85 #[u] := hbk2.next hB4
            obtain ⟨e4, f4⟩ := bk1 hbk4
            have hgl4 := hbk4.lt
            refine hK.out _ _ ?_ (fun hHeld2 => ?_)
            · (try dsimp only); exact S2.mk hB4 (by omega)
            clear hK K hHeld; have hHeld := hHeld2; clear hHeld2; (try simp only [Act.put, List.setIfInBounds_toArray, List.set_cons_zero, List.set_cons_succ])
            refine wpAnyH_ready (rs := [21]) (by kernel_rfl) (by simp) ?_
            refine AllReadyH.cons rfl (fun K hK => ?_) AllReadyH.nil
            rw [if_pos (by rfl)]
            go_simp
            go_at_call 89
            (with_reducible refine (coordOf_any f.ch.l[y] vy Y _ HCY.out HYY).mono ?_)
            rintro e w6 ⟨rfl, hb6⟩
            have hB6 : Below wr.heap.size wr w6 := Below.next hB4 hb6
            have hz6 := hB6.size
            have HO6 : Hid (Own ptC 87 3 w6 ((wo.heap.size + 1) + 1) u (stI f.ch.l x y t (10) l j)) := HO.out.next hB6
            have hbk6 : Bk w6 (wo.heap.size + 1) 85 #[u] := hbk2.next hB6
            obtain ⟨e6, f6⟩ := bk1 hbk6
            have hgl6 := hbk6.lt
            refine hK.out _ _ ?_ (fun hHeld2 => ?_)
            · (try dsimp only); exact S2.mk hB6 (by omega)
            clear hK K hHeld; have hHeld := hHeld2; clear hHeld2; (try simp only [Act.put, List.setIfInBounds_toArray, List.set_cons_zero, List.set_cons_succ])
            first | (refine take_on (i := 28) (v := ?_) rfl (by kernel_rfl) (by kernel_rfl) (by kernel_rfl) (fun _ _ _ h => h) rfl ?_ (by assumption) ?_; rotate_left; · (intro w' hSw; (try dsimp only at hSw); go_simp; (try with_reducible rfl))) | (refine take_off (i := 28) rfl (by kernel_rfl) (by kernel_rfl) (by kernel_rfl) (fun _ _ _ h => h) rfl (by assumption) ?_)
            (try simp only [Act.put, List.setIfInBounds_toArray, List.set_cons_zero, List.set_cons_succ])
            refine wpAnyH_ready (rs := [29]) (by kernel_rfl) (by simp) ?_
            refine AllReadyH.cons rfl (fun K hK => ?_) AllReadyH.nil
            rw [if_pos (by rfl)]
            go_simp
            refine hK.out _ _ ?_ (fun hHeld2 => ?_)
            · (try dsimp only); exact S2.mk (hB6.alloc hz6 _) (by omega)
            clear hK K hHeld; have hHeld := hHeld2; clear hHeld2; (try simp only [Act.put, List.setIfInBounds_toArray, List.set_cons_zero, List.set_cons_succ])
            refine wpAnyH_ready (rs := [30]) (by kernel_rfl) (by simp) ?_
            refine AllReadyH.cons rfl (fun K hK => ?_) AllReadyH.nil
            refine step_push elem_pt (by rfl) (.tmp 66) (.tmp 94) 83 (by rfl) Try.underlying83 ((wo.heap.size + 1) + 1) u (stI f.ch.l x y t (10) l j) (⟨X, Y, z * 10⟩ : Pt) (by rfl) (HO6.out.alloc _) j (stI_len (by rw [LQ.out]; omega)) w6.heap.size 1 (by rfl) (fun i u hu => ((Bk.new w6 #[.int .i64 X, .int .i64 Y, .int .i64 (z * 10)] 87).cell i).trans (by simpa [ptC] using hu)) (by unfold maxLen; omega) (by omega) (by simp only [World.size_alloc]; omega) ?_
            intro g5 cap5 w5 hown5 hgrow5 hat5 hlt5 hkeep5
            have hbk5 : Bk w5 (wo.heap.size + 1) 85 #[u] := (hgrow5.block _ (by simp only [World.size_alloc]; omega) (fun e => by have h2 := HI.out _ e.symm; omega)).trans (hbk6.alloc _)
            obtain ⟨e5', f5⟩ := bk1 hbk5
            have hz5 := hgrow5.size
            simp only [World.size_alloc] at hz5
            have hgl5 := hbk5.lt
            refine hK.out _ _ ?_ (fun hHeld2 => ?_)
            · (try dsimp only); exact S2.push hHeld hgrow5 (fun k hk => by have h2 := HI.out k hk; omega) (by omega)
            clear hK K hHeld; have hHeld := hHeld2; clear hHeld2; (try simp only [Act.put, List.setIfInBounds_toArray, List.set_cons_zero, List.set_cons_succ])
            first | (refine take_on (i := 31) (v := ?_) rfl (by kernel_rfl) (by kernel_rfl) (by kernel_rfl) (fun _ _ _ h => h) rfl ?_ (by assumption) ?_; rotate_left; · (intro w' hSw; (try dsimp only at hSw); go_simp; (try with_reducible rfl))) | (refine take_off (i := 31) rfl (by kernel_rfl) (by kernel_rfl) (by kernel_rfl) (fun _ _ _ h => h) rfl (by assumption) ?_)
            (try simp only [Act.put, List.setIfInBounds_toArray, List.set_cons_zero, List.set_cons_succ])
            refine wpAnyH_ready (rs := [32]) (by kernel_rfl) (by simp) ?_
            refine AllReadyH.cons rfl (fun K hK => ?_) AllReadyH.nil
            rw [if_pos (by rfl)]
            go_simp
            refine hK.out _ _ ?_ (fun hHeld2 => ?_)
            · (try dsimp only); exact S2.store hHeld _
            clear hK K hHeld; have hHeld := hHeld2; clear hHeld2; (try simp only [Act.put, List.setIfInBounds_toArray, List.set_cons_zero, List.set_cons_succ])
            refine wpAnyH_done (by kernel_rfl) ?_ _
            have hS := hHeld.2.2
            clear hHeld
            go_wp2_with fail
            go_roundw
            case rel =>
              refine ⟨j + 1, _, by omega, by go_num, bk1_put hbk5, ?_, ?_⟩
              · rw [HN.out]; exact hown5.setCell _ _ (fun k hk => by have h1 := hown5.lt k hk; simp only [ne_eq]; omega)
              · have hG := hB
                rw [E2.out] at hG
                exact hG.trans hS
            case measure => (simp [intOf]; try omega)
          · rw [if_pos (by rfl)]
            go_simp
            go_at_call 89
            (with_reducible refine (coordOf_any f.ch.l[x] vx X _ HCX.out HXX).mono ?_)
            rintro e w4 ⟨rfl, hb4⟩
            have hB4 : Below wr.heap.size wr w4 := Below.next (by go_grown) hb4
            have hz4 := hB4.size
            have HO4 : Hid (Own ptC 87 3 w4 ((wo.heap.size + 1) + 1) u (stI f.ch.l x y t (10) l j)) := HO.out.next hB4
            have hbk4 : Bk w4 (wo.heap.size + 1) 85 #[u] := hbk2.next hB4
            obtain ⟨e4, f4⟩ := bk1 hbk4
            have hgl4 := hbk4.lt
            refine hK.out _ _ ?_ (fun hHeld2 => ?_)
            · (try dsimp only); exact S2.mk hB4 (by omega)
            clear hK K hHeld; have hHeld := hHeld2; clear hHeld2; (try simp only [Act.put, List.setIfInBounds_toArray, List.set_cons_zero, List.set_cons_succ])
            refine wpAnyH_ready (rs := [1, 21]) (by kernel_rfl) (by simp) ?_
            refine AllReadyH.cons rfl (fun K hK => ?_) (AllReadyH.cons rfl (fun K hK => ?_) (AllReadyH.nil))
            · rw [if_pos (by rfl)]
              go_simp
              refine hK.out _ _ ?_ (fun hHeld2 => ?_)
              · (try dsimp only); exact hHeld
              clear hK K hHeld; have hHeld := hHeld2; clear hHeld2; (try simp only [Act.put, List.setIfInBounds_toArray, List.set_cons_zero, List.set_cons_succ])
              refine wpAnyH_ready (rs := [21]) (by kernel_rfl) (by simp) ?_
              refine AllReadyH.cons rfl (fun K hK => ?_) AllReadyH.nil
              rw [if_pos (by rfl)]
              go_simp
              go_at_call 89
              (with_reducible refine (coordOf_any f.ch.l[y] vy Y _ HCY.out HYY).mono ?_)
              rintro e w6 ⟨rfl, hb6⟩
              have hB6 : Below wr.heap.size wr w6 := Below.next hB4 hb6
              have hz6 := hB6.size
              have HO6 : Hid (Own ptC 87 3 w6 ((wo.heap.size + 1) + 1) u (stI f.ch.l x y t (10) l j)) := HO.out.next hB6
              have hbk6 : Bk w6 (wo.heap.size + 1) 85 #[u] := hbk2.next hB6
              obtain ⟨e6, f6⟩ := bk1 hbk6
              have hgl6 := hbk6.lt
              refine hK.out _ _ ?_ (fun hHeld2 => ?_)
              · (try dsimp only); exact S2.mk hB6 (by omega)
              clear hK K hHeld; have hHeld := hHeld2; clear hHeld2; (try simp only [Act.put, List.setIfInBounds_toArray, List.set_cons_zero, List.set_cons_succ])
              first | (refine take_on (i := 28) (v := ?_) rfl (by kernel_rfl) (by kernel_rfl) (by kernel_rfl) (fun _ _ _ h => h) rfl ?_ (by assumption) ?_; rotate_left; · (intro w' hSw; (try dsimp only at hSw); go_simp; (try with_reducible rfl))) | (refine take_off (i := 28) rfl (by kernel_rfl) (by kernel_rfl) (by kernel_rfl) (fun _ _ _ h => h) rfl (by assumption) ?_)
              (try simp only [Act.put, List.setIfInBounds_toArray, List.set_cons_zero, List.set_cons_succ])
              refine wpAnyH_ready (rs := [29]) (by kernel_rfl) (by simp) ?_
              refine AllReadyH.cons rfl (fun K hK => ?_) AllReadyH.nil
              rw [if_pos (by rfl)]
              go_simp
              refine hK.out _ _ ?_ (fun hHeld2 => ?_)
              · (try dsimp only); exact S2.mk (hB6.alloc hz6 _) (by omega)
              clear hK K hHeld; have hHeld := hHeld2; clear hHeld2; (try simp only [Act.put, List.setIfInBounds_toArray, List.set_cons_zero, List.set_cons_succ])
              refine wpAnyH_ready (rs := [30]) (by kernel_rfl) (by simp) ?_
              refine AllReadyH.cons rfl (fun K hK => ?_) AllReadyH.nil
              refine step_push elem_pt (by rfl) (.tmp 66) (.tmp 94) 83 (by rfl) Try.underlying83 ((wo.heap.size + 1) + 1) u (stI f.ch.l x y t (10) l j) (⟨X, Y, z * 10⟩ : Pt) (by rfl) (HO6.out.alloc _) j (stI_len (by rw [LQ.out]; omega)) w6.heap.size 1 (by rfl) (fun i u hu => ((Bk.new w6 #[.int .i64 X, .int .i64 Y, .int .i64 (z * 10)] 87).cell i).trans (by simpa [ptC] using hu)) (by unfold maxLen; omega) (by omega) (by simp only [World.size_alloc]; omega) ?_
              intro g5 cap5 w5 hown5 hgrow5 hat5 hlt5 hkeep5
              have hbk5 : Bk w5 (wo.heap.size + 1) 85 #[u] := (hgrow5.block _ (by simp only [World.size_alloc]; omega) (fun e => by have h2 := HI.out _ e.symm; omega)).trans (hbk6.alloc _)
              obtain ⟨e5', f5⟩ := bk1 hbk5
              have hz5 := hgrow5.size
              simp only [World.size_alloc] at hz5
              have hgl5 := hbk5.lt
              refine hK.out _ _ ?_ (fun hHeld2 => ?_)
              · (try dsimp only); exact S2.push hHeld hgrow5 (fun k hk => by have h2 := HI.out k hk; omega) (by omega)
              clear hK K hHeld; have hHeld := hHeld2; clear hHeld2; (try simp only [Act.put, List.setIfInBounds_toArray, List.set_cons_zero, List.set_cons_succ])
              first | (refine take_on (i := 31) (v := ?_) rfl (by kernel_rfl) (by kernel_rfl) (by kernel_rfl) (fun _ _ _ h => h) rfl ?_ (by assumption) ?_; rotate_left; · (intro w' hSw; (try dsimp only at hSw); go_simp; (try with_reducible rfl))) | (refine take_off (i := 31) rfl (by kernel_rfl) (by kernel_rfl) (by kernel_rfl) (fun _ _ _ h => h) rfl (by assumption) ?_)
              (try simp only [Act.put, List.setIfInBounds_toArray, List.set_cons_zero, List.set_cons_succ])
              refine wpAnyH_ready (rs := [32]) (by kernel_rfl) (by simp) ?_
              refine AllReadyH.cons rfl (fun K hK => ?_) AllReadyH.nil
              rw [if_pos (by rfl)]
              go_simp
              refine hK.out _ _ ?_ (fun hHeld2 => ?_)
              · (try dsimp only); exact S2.store hHeld _
              clear hK K hHeld; have hHeld := hHeld2; clear hHeld2; (try simp only [Act.put, List.setIfInBounds_toArray, List.set_cons_zero, List.set_cons_succ])
              refine wpAnyH_done (by kernel_rfl) ?_ _
              have hS := hHeld.2.2
              clear hHeld
              go_wp2_with fail
              go_roundw
              case rel =>
                refine ⟨j + 1, _, by omega, by go_num, bk1_put hbk5, ?_, ?_⟩
                · rw [HN.out]; exact hown5.setCell _ _ (fun k hk => by have h1 := hown5.lt k hk; simp only [ne_eq]; omega)
                · have hG := hB
                  rw [E2.out] at hG
                  exact hG.trans hS
              case measure => (simp [intOf]; try omega)
            · rw [if_pos (by rfl)]
              go_simp
              go_at_call 89
              (with_reducible refine (coordOf_any f.ch.l[y] vy Y _ HCY.out HYY).mono ?_)
              rintro e w6 ⟨rfl, hb6⟩
              have hB6 : Below wr.heap.size wr w6 := Below.next hB4 hb6
              have hz6 := hB6.size
              have HO6 : Hid (Own ptC 87 3 w6 ((wo.heap.size + 1) + 1) u (stI f.ch.l x y t (10) l j)) := HO.out.next hB6
              have hbk6 : Bk w6 (wo.heap.size + 1) 85 #[u] := hbk2.next hB6
              obtain ⟨e6, f6⟩ := bk1 hbk6
              have hgl6 := hbk6.lt
              refine hK.out _ _ ?_ (fun hHeld2 => ?_)
              · (try dsimp only); exact S2.mk hB6 (by omega)
              clear hK K hHeld; have hHeld := hHeld2; clear hHeld2; (try simp only [Act.put, List.setIfInBounds_toArray, List.set_cons_zero, List.set_cons_succ])
              first | (refine take_on (i := 28) (v := ?_) rfl (by kernel_rfl) (by kernel_rfl) (by kernel_rfl) (fun _ _ _ h => h) rfl ?_ (by assumption) ?_; rotate_left; · (intro w' hSw; (try dsimp only at hSw); go_simp; (try with_reducible rfl))) | (refine take_off (i := 28) rfl (by kernel_rfl) (by kernel_rfl) (by kernel_rfl) (fun _ _ _ h => h) rfl (by assumption) ?_)
              (try simp only [Act.put, List.setIfInBounds_toArray, List.set_cons_zero, List.set_cons_succ])
              refine wpAnyH_ready (rs := [1, 29]) (by kernel_rfl) (by simp) ?_
              refine AllReadyH.cons rfl (fun K hK => ?_) (AllReadyH.cons rfl (fun K hK => ?_) (AllReadyH.nil))
              · rw [if_pos (by rfl)]
                go_simp
                refine hK.out _ _ ?_ (fun hHeld2 => ?_)
                · (try dsimp only); exact hHeld
                clear hK K hHeld; have hHeld := hHeld2; clear hHeld2; (try simp only [Act.put, List.setIfInBounds_toArray, List.set_cons_zero, List.set_cons_succ])
                refine wpAnyH_ready (rs := [29]) (by kernel_rfl) (by simp) ?_
                refine AllReadyH.cons rfl (fun K hK => ?_) AllReadyH.nil
                rw [if_pos (by rfl)]
                go_simp
                refine hK.out _ _ ?_ (fun hHeld2 => ?_)
                · (try dsimp only); exact S2.mk (hB6.alloc hz6 _) (by omega)
                clear hK K hHeld; have hHeld := hHeld2; clear hHeld2; (try simp only [Act.put, List.setIfInBounds_toArray, List.set_cons_zero, List.set_cons_succ])
                refine wpAnyH_ready (rs := [30]) (by kernel_rfl) (by simp) ?_
                refine AllReadyH.cons rfl (fun K hK => ?_) AllReadyH.nil
                refine step_push elem_pt (by rfl) (.tmp 66) (.tmp 94) 83 (by rfl) Try.underlying83 ((wo.heap.size + 1) + 1) u (stI f.ch.l x y t (10) l j) (⟨X, Y, z * 10⟩ : Pt) (by rfl) (HO6.out.alloc _) j (stI_len (by rw [LQ.out]; omega)) w6.heap.size 1 (by rfl) (fun i u hu => ((Bk.new w6 #[.int .i64 X, .int .i64 Y, .int .i64 (z * 10)] 87).cell i).trans (by simpa [ptC] using hu)) (by unfold maxLen; omega) (by omega) (by simp only [World.size_alloc]; omega) ?_
                intro g5 cap5 w5 hown5 hgrow5 hat5 hlt5 hkeep5
                have hbk5 : Bk w5 (wo.heap.size + 1) 85 #[u] := (hgrow5.block _ (by simp only [World.size_alloc]; omega) (fun e => by have h2 := HI.out _ e.symm; omega)).trans (hbk6.alloc _)
                obtain ⟨e5', f5⟩ := bk1 hbk5
                have hz5 := hgrow5.size
                simp only [World.size_alloc] at hz5
                have hgl5 := hbk5.lt
                refine hK.out _ _ ?_ (fun hHeld2 => ?_)
                · (try dsimp only); exact S2.push hHeld hgrow5 (fun k hk => by have h2 := HI.out k hk; omega) (by omega)
                clear hK K hHeld; have hHeld := hHeld2; clear hHeld2; (try simp only [Act.put, List.setIfInBounds_toArray, List.set_cons_zero, List.set_cons_succ])
                first | (refine take_on (i := 31) (v := ?_) rfl (by kernel_rfl) (by kernel_rfl) (by kernel_rfl) (fun _ _ _ h => h) rfl ?_ (by assumption) ?_; rotate_left; · (intro w' hSw; (try dsimp only at hSw); go_simp; (try with_reducible rfl))) | (refine take_off (i := 31) rfl (by kernel_rfl) (by kernel_rfl) (by kernel_rfl) (fun _ _ _ h => h) rfl (by assumption) ?_)
                (try simp only [Act.put, List.setIfInBounds_toArray, List.set_cons_zero, List.set_cons_succ])
                refine wpAnyH_ready (rs := [32]) (by kernel_rfl) (by simp) ?_
                refine AllReadyH.cons rfl (fun K hK => ?_) AllReadyH.nil
                rw [if_pos (by rfl)]
                go_simp
                refine hK.out _ _ ?_ (fun hHeld2 => ?_)
                · (try dsimp only); exact S2.store hHeld _
                clear hK K hHeld; have hHeld := hHeld2; clear hHeld2; (try simp only [Act.put, List.setIfInBounds_toArray, List.set_cons_zero, List.set_cons_succ])
                refine wpAnyH_done (by kernel_rfl) ?_ _
                have hS := hHeld.2.2
                clear hHeld
                go_wp2_with fail
                go_roundw
                case rel =>
                  refine ⟨j + 1, _, by omega, by go_num, bk1_put hbk5, ?_, ?_⟩
                  · rw [HN.out]; exact hown5.setCell _ _ (fun k hk => by have h1 := hown5.lt k hk; simp only [ne_eq]; omega)
                  · have hG := hB
                    rw [E2.out] at hG
                    exact hG.trans hS
                case measure => (simp [intOf]; try omega)
              · rw [if_pos (by rfl)]
                go_simp
                refine hK.out _ _ ?_ (fun hHeld2 => ?_)
                · (try dsimp only); exact S2.mk (hB6.alloc hz6 _) (by omega)
                clear hK K hHeld; have hHeld := hHeld2; clear hHeld2; (try simp only [Act.put, List.setIfInBounds_toArray, List.set_cons_zero, List.set_cons_succ])
                refine wpAnyH_ready (rs := [1]) (by kernel_rfl) (by simp) ?_
                refine AllReadyH.cons rfl (fun K hK => ?_) AllReadyH.nil
                rw [if_pos (by rfl)]
                go_simp
                refine hK.out _ _ ?_ (fun hHeld2 => ?_)
                · (try dsimp only); exact hHeld
                clear hK K hHeld; have hHeld := hHeld2; clear hHeld2; (try simp only [Act.put, List.setIfInBounds_toArray, List.set_cons_zero, List.set_cons_succ])
                refine wpAnyH_ready (rs := [30]) (by kernel_rfl) (by simp) ?_
                refine AllReadyH.cons rfl (fun K hK => ?_) AllReadyH.nil
                refine step_push elem_pt (by rfl) (.tmp 66) (.tmp 94) 83 (by rfl) Try.underlying83 ((wo.heap.size + 1) + 1) u (stI f.ch.l x y t (10) l j) (⟨X, Y, z * 10⟩ : Pt) (by rfl) (HO6.out.alloc _) j (stI_len (by rw [LQ.out]; omega)) w6.heap.size 1 (by rfl) (fun i u hu => ((Bk.new w6 #[.int .i64 X, .int .i64 Y, .int .i64 (z * 10)] 87).cell i).trans (by simpa [ptC] using hu)) (by unfold maxLen; omega) (by omega) (by simp only [World.size_alloc]; omega) ?_
                intro g5 cap5 w5 hown5 hgrow5 hat5 hlt5 hkeep5
                have hbk5 : Bk w5 (wo.heap.size + 1) 85 #[u] := (hgrow5.block _ (by simp only [World.size_alloc]; omega) (fun e => by have h2 := HI.out _ e.symm; omega)).trans (hbk6.alloc _)
                obtain ⟨e5', f5⟩ := bk1 hbk5
                have hz5 := hgrow5.size
                simp only [World.size_alloc] at hz5
                have hgl5 := hbk5.lt
                refine hK.out _ _ ?_ (fun hHeld2 => ?_)
                · (try dsimp only); exact S2.push hHeld hgrow5 (fun k hk => by have h2 := HI.out k hk; omega) (by omega)
                clear hK K hHeld; have hHeld := hHeld2; clear hHeld2; (try simp only [Act.put, List.setIfInBounds_toArray, List.set_cons_zero, List.set_cons_succ])
                first | (refine take_on (i := 31) (v := ?_) rfl (by kernel_rfl) (by kernel_rfl) (by kernel_rfl) (fun _ _ _ h => h) rfl ?_ (by assumption) ?_; rotate_left; · (intro w' hSw; (try dsimp only at hSw); go_simp; (try with_reducible rfl))) | (refine take_off (i := 31) rfl (by kernel_rfl) (by kernel_rfl) (by kernel_rfl) (fun _ _ _ h => h) rfl (by assumption) ?_)
                (try simp only [Act.put, List.setIfInBounds_toArray, List.set_cons_zero, List.set_cons_succ])
                refine wpAnyH_ready (rs := [32]) (by kernel_rfl) (by simp) ?_
                refine AllReadyH.cons rfl (fun K hK => ?_) AllReadyH.nil
                rw [if_pos (by rfl)]
                go_simp
                refine hK.out _ _ ?_ (fun hHeld2 => ?_)
                · (try dsimp only); exact S2.store hHeld _
                clear hK K hHeld; have hHeld := hHeld2; clear hHeld2; (try simp only [Act.put, List.setIfInBounds_toArray, List.set_cons_zero, List.set_cons_succ])
                refine wpAnyH_done (by kernel_rfl) ?_ _
                have hS := hHeld.2.2
                clear hHeld
                go_wp2_with fail
                go_roundw
                case rel =>
                  refine ⟨j + 1, _, by omega, by go_num, bk1_put hbk5, ?_, ?_⟩
                  · rw [HN.out]; exact hown5.setCell _ _ (fun k hk => by have h1 := hown5.lt k hk; simp only [ne_eq]; omega)
                  · have hG := hB
                    rw [E2.out] at hG
                    exact hG.trans hS
                case measure => (simp [intOf]; try omega)
        · have ej : j = q := by omega
          have HO2 : Hid (Own ptC 87 3 wr ((wo.heap.size + 1) + 1) u (l.map fun r => ptR f.ch.l x y t (10) r.l)) := by
            have h1 := HO.out
            rw [ej, ← LQ.out, stI_all] at h1
            exact h1
          obtain ⟨A2, c2, hu, hA2, hc2, _⟩ := HO2.out.rd
          rw [List.length_map, LQ.out] at hu
          subst hu
          subst ej
          clear HO
          have hbk3 : Bk wr w3.heap.size 35 #[v] := hbk.next hB0
          obtain ⟨eo3, fo3⟩ := bk1 hbk3
          have hgl3 := hbk3.lt
          have HIN := Lib.hid (hin.out.next hB0)
          have HVV : Hid (∀ k, v.ownBlock = some k → w3.heap.size + 1 ≤ k ∧ k < wo.heap.size) := fun k hk => ⟨(hin.out.row.lt k hk).1, (hin.out.row.lt k hk).2⟩
          have TL : Hid (T.length = kk) := hT
          obtain ⟨s9, hs9⟩ : ∃ t9 : St, t9 = ⟨A2, c2, l.map fun r => ptR f.ch.l x y t (10) r.l⟩ := ⟨_, rfl⟩
          have hne : ¬ w3.heap.size = (wo.heap.size + 1) := by omega
          have htv : s9.val = .slice A2 j c2 := by rw [hs9]; simp [St.val, LQ.out]
          have htl : s9.l = l.map fun r => ptR f.ch.l x y t (10) r.l := by rw [hs9]
          have HTV := Lib.hid htv
          have HTL := Lib.hid htl
          clear hs9 htv htl hT
          go_wp2_with ((at_builtin; refine list_push elem_sk (by rfl) (.tmp 99) (.tmp 101) 33 (by rfl) Try.underlying33 (w3.heap.size + 1) v T s9 (by rfl) (HIN.out.row.alloc _) kk TL.out wr.heap.size 1 (by rfl) (fun i u hu => ((Bk.new wr #[.slice A2 j c2] 85).cell i).trans (by have h1 := HTV.out; unfold skC at hu; rw [h1] at hu; simpa using hu)) (by unfold maxLen; omega) (by omega) (by simp only [World.size_alloc]; omega) ?_; intro g5 cap5 w5 hown5 hgrow5 hat5 hlt5 hkeep5; have hbk5 : Bk w5 w3.heap.size 35 #[v] := (hgrow5.block _ (by simp only [World.size_alloc]; omega) (fun e => by have h2 := HVV.out _ e.symm; omega)).trans (hbk3.alloc _); obtain ⟨e5, f5⟩ := bk1 hbk5; have hz5 := hgrow5.size; simp only [World.size_alloc] at hz5; have hgl5 := hbk5.lt))
          go_roundw
          case rel =>
            have hlow : w3.heap.size + 1 ≤ (wo.heap.size + 1) + 1 := by omega
            have hink := InkOwn.push HIN.out (t := s9) (by rw [HTL.out, HTV.out]; exact (HO2.out.mono hlow)) (fun b hb => by rw [HTV.out] at hb; have h1 := (HO2.out.lt b hb).1; omega) hB0.size ((Below.refl _ _).alloc (Nat.le_refl _) _) hgrow5 hat5 hlt5 hown5
            refine ⟨kk + 1, _, T ++ [s9], by omega, by go_num, bk1_put hbk5, by simp [Hid, TL.out], HLE.out s9 HTL.out, ?_, ?_⟩
            · have hsz : (w5.setCell ⟨w3.heap.size, 0, none⟩ (.slice (some ⟨g5, 0, none⟩) (kk + 1) cap5)).heap.size = w5.heap.size := by simp [World.setCell]
              rw [hsz]
              exact hink.keep fun j hj _ _ => Below.heap_setCell _ _ _ _ (by simp only [ne_eq]; omega)
            · have hG := hW.trans (hB0.mono (show w3.heap.size ≤ wo.heap.size by omega))
              have hG2 := (hG.alloc (show w3.heap.size ≤ wr.heap.size by omega) (.cells #[.slice A2 j c2] 85)).grown hgrow5 (by simp only [World.size_alloc]; omega) (fun b hb => by have h2 := HVV.out b hb; omega)
              exact hG2.setCell (Nat.le_refl _) _
          case measure => (simp [intOf]; try omega)
    · obtain rfl : kk = m := by omega
      have HIN := Lib.hid hin.out
      have hall : Hid (ptsOf T = L0) := by
        have h1 := hpt.out
        rw [List.take_of_length_le (by rw [LM.out]; exact Nat.le_refl _), hL0.out] at h1
        exact h1
      have HEACH : Hid (∀ s ∈ T, s.l.length ≤ 1048576) := iofT_each (hall.out.trans hL0.out.symm) (fun s hs => by
        obtain ⟨i, hi, rfl⟩ := List.mem_iff_getElem.1 hs
        exact (stOk_at HOK.out HP.out hi).2.1)
      obtain ⟨A2, c2, hv, _, _, _⟩ := hin.out.row.rd
      rw [hT.out] at hv
      subst hv
      have hRo : Bk wo (w.heap.size + 1) 35 #[.slice none 0 0] := (HR3.out.alloc _).below hW (HR3.out.lt)
      obtain ⟨ev, fv⟩ := bk1 hbk
      clear hin
      go_wp2_with fail
      have hcv := validInk_any A2 kk c2 T _ (HIN.out.rd hT.out) HEACH.out (by omega)
      rw [hall.out] at hcv
      refine hcv.mono ?_
      rintro e w5 ⟨rfl, hb5⟩
      have hT5 : Below w.heap.size w w5 := Below.next hW0 hb5
      have hR5 := hRo.next hb5
      have hV5 := hbk.next hb5
      have HIN5 := Lib.hid (HIN.out.next hb5)
      obtain ⟨er, fr⟩ := bk1 hR5
      obtain ⟨ev5, fv5⟩ := bk1 hV5
      have hgr := hR5.lt
      have hgv := hV5.lt
      have hz5w := hb5.size
      clear hb5 hcv ev fv eo fo
      cases hv : inkB L0
      · have h2 := hR.out
        rw [hv] at h2
        obtain ⟨e1, e2⟩ : [] = L ∧ (2 : Int) = code := by injection h2 with e1 e2; exact ⟨e1, e2⟩
        subst e1; subst e2
        obtain rfl : 0 = N := hN.out
        clear h2
        go_wp2_with fail
        refine bodyPost_ret (by simp [results, Try.results43, go_sem, *]; try rfl) rfl ?_
        exact ⟨none, 0, [], rfl, rfl, InkOwn.nil _ _ _, by have hT9 := hT5; go_grown⟩
      · have h2 := hR.out
        rw [hv] at h2
        obtain ⟨e1, e2⟩ : L0 = L ∧ (0 : Int) = code := by injection h2 with e1 e2; exact ⟨e1, e2⟩
        subst e1; subst e2
        obtain rfl : kk = N := by rw [← hN.out, ← hall.out, ptsOf_len]; exact hT.out.symm
        clear h2
        go_wp2_with fail
        refine bodyPost_ret (by simp [results, Try.results43, go_sem, *]; try rfl) rfl ?_
        refine ⟨A2, c2, T, rfl, hall.out, ?_, by have hT9 := hT5; go_grown⟩
        have hsz : (w5.setCell ⟨w.heap.size + 1, 0, none⟩ (.slice A2 kk c2)).heap.size = w5.heap.size := by simp [World.setCell]
        rw [hsz]
        have hl1 := hT3.size
        have hl2 := HR3.out.lt
        exact ((HIN5.out.keep fun j hj _ _ => Below.heap_setCell _ _ _ _ (by simp only [ne_eq]; omega)).low (by omega)).upto hz5w
end Go.Proofs.Ytigingjpdlfanaa
