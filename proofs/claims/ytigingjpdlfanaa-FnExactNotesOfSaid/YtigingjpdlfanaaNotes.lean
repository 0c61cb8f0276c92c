/-
  NotesOf: what program and reference answer, as one plain function.
-/
import Derived.Test.YtigingjpdlfanaaColumn
namespace Go.Proofs.Ytigingjpdlfanaa
set_option linter.unusedSimpArgs false
set_option linter.unusedVariables false
set_option maxRecDepth 20000
open Go.RowKit
open Go.ChangeShapes Go.WideShapes Go.Deep Go.Joins

def onB (s : Int) (n : No) : Bool := decide (n.fr ≤ s) && decide (s < n.til)
def texP (s : Int) (l : List No) : List ByteArray := (l.filter (onB s)).map fun n => n.text
def texR (b : Bool) (s : Int) (p : FlP) : List ByteArray × Int := if b = true then (if inB s 0 ((p.st.length : Int) - 1) = true then (texP s p.no, 0) else ([], 2)) else ([], 1)
theorem texR_no (s : Int) (p : FlP) : texR false s p = ([], 1) := rfl
theorem texR_out {s : Int} {p : FlP} (h : inB s 0 ((p.st.length : Int) - 1) = false) : texR true s p = ([], 2) := by unfold texR; rw [if_pos rfl, h]; rfl
theorem texR_yes {s : Int} {p : FlP} (h : inB s 0 ((p.st.length : Int) - 1) = true) : texR true s p = (texP s p.no, 0) := by unfold texR; rw [if_pos rfl, h]; rfl
theorem texP_yes {s : Int} {l : List No} {k : Nat} (hk : k < l.length) (h : onB s l[k] = true) : texP s (l.take (k + 1)) = texP s (l.take k) ++ [l[k].text] := by
  unfold texP
  rw [List.take_succ_eq_append_getElem hk, List.filter_append, List.map_append]
  simp [h]
theorem texP_no {s : Int} {l : List No} {k : Nat} (hk : k < l.length) (h : onB s l[k] = false) : texP s (l.take (k + 1)) = texP s (l.take k) := by
  unfold texP
  rw [List.take_succ_eq_append_getElem hk, List.filter_append, List.map_append]
  simp [h]
theorem texP_len (s : Int) (l : List No) : (texP s l).length ≤ l.length := by unfold texP; rw [List.length_map]; exact List.length_filter_le _ _
theorem texR_len (b : Bool) (s : Int) {p : FlP} (h : PlSz p) : (texR b s p).1.length ≤ 1048576 := by
  cases b
  · rw [texR_no]; simp
  · cases hz : inB s 0 ((p.st.length : Int) - 1)
    · rw [texR_out hz]; simp
    · rw [texR_yes hz]; exact Nat.le_trans (texP_len s p.no) h.no
theorem onB_of {s : Int} {n : No} : onB s n = inB s n.fr (n.til - 1) := by
  cases h : inB s n.fr (n.til - 1)
  · have := inB_false h
    unfold onB
    rw [Bool.and_eq_false_iff]
    by_cases h1 : n.fr ≤ s
    · right; exact decide_eq_false (by omega)
    · left; exact decide_eq_false h1
  · have := inB_true h
    unfold onB
    rw [decide_eq_true (by omega), decide_eq_true (by omega)]; rfl
theorem no_at {p : FlP} {f : Fl} (h : FileOk p) (hp : filePl f = p) {k : Nat} (hk : k < f.no.l.length) : 0 ≤ f.no.l[k].fr ∧ f.no.l[k].fr < f.no.l[k].til ∧ f.no.l[k].til ≤ (f.st.l.length : Int) := by
  subst hp
  have h1 := (fileOk_iff.1 h).2.2.2.2.2.2 k hk hk
  have h2 := h1.1
  unfold noB at h2
  simpa using h2
set_option maxHeartbeats 1000000 in
theorem iNotesOf_L (f : Fl) (p : FlP) (s : Int) (b : Bool) (L : List ByteArray) (N : Nat) (code : Int) (w : World) (h : FileRd w f) (hp : filePl f = p) (hs : PlSz p) (ht : PlTx p) (hb : Is b (FileOk p)) (hR : Hid (texR b s p = (L, code))) (hN : Hid (L.length = N)) :
    Calls Try.prog 34 #[.agg #[.slice f.ch.A f.ch.l.length f.ch.c, .slice f.st.A f.st.l.length f.st.c, .slice f.no.A f.no.l.length f.no.c], .int .i64 s] w fun e w' => ∃ A2 c2, e = .returned (.tuple #[.slice A2 N c2, .int .i64 code]) ∧ Own sC 9 1 w' w.heap.size (.slice A2 N c2) L ∧ Below w.heap.size w w' := by
  have HV : Is b (FileOk p) := hb
  have HP := Lib.hid hp
  have hpn : Hid (f.no.l = p.no) := congrArg FlP.no hp
  have hps : Hid (f.st.l.length = p.st.length) := by have e : f.st.l.map rowsK.pl = p.st := congrArg FlP.st hp; rw [Hid, ← e, List.length_map]
  have HK : Hid (Bk (w.alloc (.cells #[.slice f.ch.A f.ch.l.length f.ch.c, .slice f.st.A f.st.l.length f.st.c, .slice f.no.A f.no.l.length f.no.c] 30)) w.heap.size 30 #[.slice f.ch.A f.ch.l.length f.ch.c, .slice f.st.A f.st.l.length f.st.c, .slice f.no.A f.no.l.length f.no.c]) := Bk.new w _ _
  have HA := Lib.hid (h.alloc (.cells #[.slice f.ch.A f.ch.l.length f.ch.c, .slice f.st.A f.st.l.length f.st.c, .slice f.no.A f.no.l.length f.no.c] 30))
  have H0 := Lib.hid h
  clear h hb
  cases b
  · have h2 := hR.out
    rw [texR_no] at h2
    obtain ⟨e1, e2⟩ : [] = L ∧ (1 : Int) = code := by injection h2 with e1 e2; exact ⟨e1, e2⟩
    subst e1; subst e2
    obtain rfl : 0 = N := hN.out
    go_enter Try.func34, Try.ntmps34
    go_wp2_with fail
    refine (iValid_L f p false _ HA.out hp hs ht HV).mono ?_
    rintro e w2 ⟨rfl, hb2⟩
    have hW : Below w.heap.size w w2 := Below.next (by go_grown) hb2
    clear hb2
    go_wp2_with fail
    refine bodyPost_ret (by simp [results, Try.results34, go_sem, *]; try rfl) rfl ?_
    exact ⟨none, 0, rfl, Own.nil _ _ _ _ _, hW⟩
  · obtain ⟨m, hm⟩ : ∃ m, p.st.length = m := ⟨_, rfl⟩
    have hmb : m ≤ 1048576 := by have := hs.st; omega
    have LM := Lib.hid hm
    have LF : Hid (f.st.l.length = m) := hps.out.trans hm
    cases hx : inB s 0 ((m : Int) - 1)
    · have h2 := hR.out
      rw [texR_out (by rw [LM.out]; exact hx)] at h2
      obtain ⟨e1, e2⟩ : [] = L ∧ (2 : Int) = code := by injection h2 with e1 e2; exact ⟨e1, e2⟩
      subst e1; subst e2
      obtain rfl : 0 = N := hN.out
      have HX := Lib.hid hx
      clear hx hm
      go_enter Try.func34, Try.ntmps34
      go_wp2_with fail
      refine (iValid_L f p true _ HA.out hp hs ht HV).mono ?_
      rintro e w2 ⟨rfl, hb2⟩
      have hW : Below w.heap.size w w2 := Below.next (by go_grown) hb2
      obtain ⟨q0, q1, q2, ql⟩ := fcells f _ _ _ (HK.out.next hb2)
      have HK2 := Lib.hid (HK.out.next hb2)
      clear hb2 q0
      rw [LF.out] at q1
      clear q2
      go_wp2_with (first | (go_at_call 81; refine (within_v HX _).mono ?_; rintro e w' ⟨rfl, rfl⟩))
      refine bodyPost_ret (by simp [results, Try.results34, go_sem, *]; try rfl) rfl ?_
      exact ⟨none, 0, rfl, Own.nil _ _ _ _ _, hW⟩
    · have h2 := hR.out
      rw [texR_yes (by rw [LM.out]; exact hx)] at h2
      obtain ⟨e1, e2⟩ : texP s p.no = L ∧ (0 : Int) = code := by injection h2 with e1 e2; exact ⟨e1, e2⟩
      subst e1; subst e2
      have HX := Lib.hid hx
      have HOK := Lib.hid (HV.1 rfl)
      clear hx h2 hR
      obtain ⟨r, hr⟩ : ∃ r, f.no.l.length = r := ⟨_, rfl⟩
      have hrb : r ≤ 1048576 := by have := hs.no; rw [← hpn.out] at this; omega
      have LR := Lib.hid hr
      clear hm hr
      go_enter Try.func34, Try.ntmps34
      go_wp2_with fail
      refine (iValid_L f p true _ HA.out hp hs ht HV).mono ?_
      rintro e w2 ⟨rfl, hb2⟩
      have hW : Below w.heap.size w w2 := Below.next (by go_grown) hb2
      obtain ⟨q0, q1, q2, ql⟩ := fcells f _ _ _ (HK.out.next hb2)
      have HK2 := Lib.hid (HK.out.next hb2)
      clear hb2 q0
      rw [LF.out] at q1
      rw [LR.out] at q2
      have hz2 := hW.size
      go_wp2_with (first | (go_at_call 81; refine (within_v HX _).mono ?_; rintro e w' ⟨rfl, rfl⟩))
      clear q1 q2
      go_loopw [6, 22] (fun v i wr => ∃ (k : Nat) (W : List ByteArray), k ≤ r ∧ i = .int .i64 (k : Int) ∧ Hid (W = texP s (f.no.l.take k)) ∧ W.length ≤ k ∧ Own sC 9 1 wr w2.heap.size v W ∧ Below w2.heap.size w2 wr) (fun _ i _ => r - (intOf i).toNat)
      case atStart => exact ⟨0, [], Nat.zero_le _, rfl, rfl, Nat.le_refl _, Own.nil _ _ _ _ _, by go_grown⟩
      case round =>
        obtain ⟨k, W, hk, rfl, hWt, hWl, hown, hB2⟩ := hrel
        have hBs := hB2.size
        have hB : Below w.heap.size w wr := Below.next hW hB2
        have HO := Lib.hid hown
        have HV2 : Hid (∀ b, u6.ownBlock = some b → w2.heap.size ≤ b) := fun b hb => (hown.lt b hb).1
        clear hown
        have hlo : w.heap.size < wr.heap.size := by omega
        by_cases hlt : k < r
        · have ka : k < f.no.l.length := by rw [LR.out]; exact hlt
          obtain ⟨b1, o1, e1, l1, c0⟩ := (H0.out.no.1.below hB).at noC_len rfl ka
          have d0 : wr.cell? ⟨b1, o1 + k * 3, none⟩ = some (.int .i64 f.no.l[k].fr) := c0 0 _ rfl
          have d1 : wr.cell? ⟨b1, o1 + k * 3 + 1, none⟩ = some (.int .i64 f.no.l[k].til) := c0 1 _ rfl
          have d2 : wr.cell? ⟨b1, o1 + k * 3 + 2, none⟩ = some (.string f.no.l[k].text) := c0 2 _ rfl
          obtain ⟨g1, g2, g3⟩ := no_at HOK.out HP.out ka
          have hk0 : (0 : Int) ≤ (k : Int) := by omega
          have hkn : (k : Int) < (r : Int) := by omega
          rw [e1]
          rw [LF.out] at g3
          clear c0 e1
          cases y1 : decide (f.no.l[k].fr ≤ s)
          · have hnx : Hid (W = texP s (f.no.l.take (k + 1))) := by rw [Hid, texP_no ka (by unfold onB; rw [y1]; rfl)]; exact hWt.out
            go_wp2_with fail
            go_roundw
            case rel => exact ⟨k + 1, W, by omega, by go_num, hnx, by omega, HO.out.alloc _, hB2.alloc hBs _⟩
            case measure => (simp [intOf]; try omega)
          · cases y2 : decide (s < f.no.l[k].til)
            · have hnx : Hid (W = texP s (f.no.l.take (k + 1))) := by rw [Hid, texP_no ka (by unfold onB; rw [y1, y2]; rfl)]; exact hWt.out
              go_wp2_with fail
              go_roundw
              case rel => exact ⟨k + 1, W, by omega, by go_num, hnx, by omega, HO.out.alloc _, hB2.alloc hBs _⟩
              case measure => (simp [intOf]; try omega)
            · have hnx : Hid (W ++ [f.no.l[k].text] = texP s (f.no.l.take (k + 1))) := by rw [Hid, texP_yes ka (by unfold onB; rw [y1, y2]; rfl), hWt.out]
              obtain ⟨u, hu⟩ : ∃ u, W.length = u := ⟨_, rfl⟩
              have HU := Lib.hid hu
              have hub : u ≤ k := by omega
              clear hu
              go_wp2_with (at_builtin; refine list_push elem_str (by rfl) (.tmp 36) (.tmp 39) 60 (by rfl) Try.underlying60 w2.heap.size _ W f.no.l[k].text (by rfl) ((HO.out.alloc _).alloc _) u HU.out (wr.heap.size + 1) 1 (by rfl) (fun i u hu => ((Bk.new1 wr (.cells #[.int .i64 f.no.l[k].fr, .int .i64 f.no.l[k].til, .string f.no.l[k].text] 70) #[.string f.no.l[k].text] 9).cell i).trans (by simpa [sC] using hu)) (by unfold maxLen; omega) (by omega) (by simp only [World.size_alloc, World.size_drew]; omega) ?_; intro g5 cap5 w5 hown5 hgrow5 hat5 hlt5 hkeep5; have HO5 := Lib.hid hown5; have HG5 := Lib.hid hgrow5; clear hown5 hgrow5 hat5 hkeep5)
              go_roundw
              case rel => exact ⟨k + 1, W ++ [f.no.l[k].text], by omega, by go_num, hnx, by rw [List.length_append, HU.out]; simp; omega, HO5.out, ((hB2.alloc hBs (.cells #[.int .i64 f.no.l[k].fr, .int .i64 f.no.l[k].til, .string f.no.l[k].text] 70)).alloc (by simp only [World.size_alloc]; omega) (.cells #[.string f.no.l[k].text] 9)).grown HG5.out (by simp only [World.size_alloc]; omega) HV2.out⟩
              case measure => (simp [intOf]; try omega)
        · have hT : f.no.l.take k = f.no.l := List.take_of_length_le (by rw [LR.out]; omega)
          have hall : Hid (W = texP s p.no) := by rw [Hid, hWt.out, hT, hpn.out]
          obtain ⟨A2, c2, hv, _, _, _⟩ := HO.out.rd
          subst hv
          have hWN : Hid (W.length = N) := by rw [Hid, hall.out]; exact hN.out
          rw [hWN.out]
          clear hT
          go_wp2_with fail
          refine bodyPost_ret (by simp [results, Try.results34, go_sem, *]; try rfl) rfl ?_
          have h9 := HO.out
          rw [hWN.out, hall.out] at h9
          exact ⟨A2, c2, rfl, h9.mono hz2, hB⟩
set_option maxHeartbeats 1000000 in
theorem sNotesOf_L (f : Fl) (p : FlP) (s : Int) (b : Bool) (L : List ByteArray) (N : Nat) (code : Int) (w : World) (h : FileRd w f) (hp : filePl f = p) (hs : PlSz p) (ht : PlTx p) (hb : Is b (FileOk p)) (hR : Hid (texR b s p = (L, code))) (hN : Hid (L.length = N)) :
    Calls Try.prog 33 #[.agg #[.slice f.ch.A f.ch.l.length f.ch.c, .slice f.st.A f.st.l.length f.st.c, .slice f.no.A f.no.l.length f.no.c], .int .i64 s] w fun e w' => ∃ A2 c2, e = .returned (.tuple #[.slice A2 N c2, .int .i64 code]) ∧ Own sC 9 1 w' w.heap.size (.slice A2 N c2) L ∧ Below w.heap.size w w' := by
  have HV : Is b (FileOk p) := hb
  have HP := Lib.hid hp
  have hpn : Hid (f.no.l = p.no) := congrArg FlP.no hp
  have hps : Hid (f.st.l.length = p.st.length) := by have e : f.st.l.map rowsK.pl = p.st := congrArg FlP.st hp; rw [Hid, ← e, List.length_map]
  have HK : Hid (Bk (w.alloc (.cells #[.slice f.ch.A f.ch.l.length f.ch.c, .slice f.st.A f.st.l.length f.st.c, .slice f.no.A f.no.l.length f.no.c] 30)) w.heap.size 30 #[.slice f.ch.A f.ch.l.length f.ch.c, .slice f.st.A f.st.l.length f.st.c, .slice f.no.A f.no.l.length f.no.c]) := Bk.new w _ _
  have HA := Lib.hid (h.alloc (.cells #[.slice f.ch.A f.ch.l.length f.ch.c, .slice f.st.A f.st.l.length f.st.c, .slice f.no.A f.no.l.length f.no.c] 30))
  have H0 := Lib.hid h
  clear h hb
  cases b
  · have h2 := hR.out
    rw [texR_no] at h2
    obtain ⟨e1, e2⟩ : [] = L ∧ (1 : Int) = code := by injection h2 with e1 e2; exact ⟨e1, e2⟩
    subst e1; subst e2
    obtain rfl : 0 = N := hN.out
    go_enter Try.func33, Try.ntmps33
    go_wp2_with fail
    refine (sOk_L _ f p false _ (FBox.of_bk HK.out) HA.out hp hs ht HV).mono ?_
    rintro e w2 ⟨rfl, hb2⟩
    have hW : Below w.heap.size w w2 := Below.next (by go_grown) hb2
    clear hb2
    go_wp2_with fail
    refine bodyPost_ret (by simp [results, Try.results33, go_sem, *]; try rfl) rfl ?_
    exact ⟨none, 0, rfl, Own.nil _ _ _ _ _, hW⟩
  · obtain ⟨m, hm⟩ : ∃ m, p.st.length = m := ⟨_, rfl⟩
    have hmb : m ≤ 1048576 := by have := hs.st; omega
    have LM := Lib.hid hm
    have LF : Hid (f.st.l.length = m) := hps.out.trans hm
    cases hx : inB s 0 ((m : Int) - 1)
    · have h2 := hR.out
      rw [texR_out (by rw [LM.out]; exact hx)] at h2
      obtain ⟨e1, e2⟩ : [] = L ∧ (2 : Int) = code := by injection h2 with e1 e2; exact ⟨e1, e2⟩
      subst e1; subst e2
      obtain rfl : 0 = N := hN.out
      have HX := Lib.hid hx
      clear hx hm
      go_enter Try.func33, Try.ntmps33
      go_wp2_with fail
      refine (sOk_L _ f p true _ (FBox.of_bk HK.out) HA.out hp hs ht HV).mono ?_
      rintro e w2 ⟨rfl, hb2⟩
      have hW : Below w.heap.size w w2 := Below.next (by go_grown) hb2
      obtain ⟨q0, q1, q2, ql⟩ := fcells f _ _ _ (HK.out.next hb2)
      have HK2 := Lib.hid (HK.out.next hb2)
      clear hb2 q0
      rw [LF.out] at q1
      clear q2
      go_wp2_with (first | (go_at_call 80; refine (l00In_v HX _).mono ?_; rintro e w' ⟨rfl, rfl⟩))
      refine bodyPost_ret (by simp [results, Try.results33, go_sem, *]; try rfl) rfl ?_
      exact ⟨none, 0, rfl, Own.nil _ _ _ _ _, hW⟩
    · have h2 := hR.out
      rw [texR_yes (by rw [LM.out]; exact hx)] at h2
      obtain ⟨e1, e2⟩ : texP s p.no = L ∧ (0 : Int) = code := by injection h2 with e1 e2; exact ⟨e1, e2⟩
      subst e1; subst e2
      have HX := Lib.hid hx
      have HOK := Lib.hid (HV.1 rfl)
      clear hx h2 hR
      obtain ⟨r, hr⟩ : ∃ r, f.no.l.length = r := ⟨_, rfl⟩
      have hrb : r ≤ 1048576 := by have := hs.no; rw [← hpn.out] at this; omega
      have LR := Lib.hid hr
      clear hm hr
      go_enter Try.func33, Try.ntmps33
      go_wp2_with fail
      refine (sOk_L _ f p true _ (FBox.of_bk HK.out) HA.out hp hs ht HV).mono ?_
      rintro e w2 ⟨rfl, hb2⟩
      have hW : Below w.heap.size w w2 := Below.next (by go_grown) hb2
      obtain ⟨q0, q1, q2, ql⟩ := fcells f _ _ _ (HK.out.next hb2)
      have HK2 := Lib.hid (HK.out.next hb2)
      clear hb2 q0
      rw [LF.out] at q1
      rw [LR.out] at q2
      have hz2 := hW.size
      go_wp2_with (first | (go_at_call 80; refine (l00In_v HX _).mono ?_; rintro e w' ⟨rfl, rfl⟩))
      clear q1 q2
      go_loopw [6, 7] (fun v i wr => ∃ (k : Nat) (W : List ByteArray), k ≤ r ∧ i = .int .i64 (k : Int) ∧ Hid (W = texP s (f.no.l.take k)) ∧ W.length ≤ k ∧ Own sC 9 1 wr w2.heap.size v W ∧ Below w2.heap.size w2 wr) (fun _ i _ => r - (intOf i).toNat)
      case atStart => exact ⟨0, [], Nat.zero_le _, rfl, rfl, Nat.le_refl _, Own.empty (Bk.new w2 #[] 9) (Nat.le_refl _), by go_grown⟩
      case round =>
        obtain ⟨k, W, hk, rfl, hWt, hWl, hown, hB2⟩ := hrel
        have hBs := hB2.size
        have hB : Below w.heap.size w wr := Below.next hW hB2
        have HO := Lib.hid hown
        have HV2 : Hid (∀ b, u6.ownBlock = some b → w2.heap.size ≤ b) := fun b hb => (hown.lt b hb).1
        clear hown
        have hlo : w.heap.size < wr.heap.size := by omega
        have q2 : wr.cell? ⟨w.heap.size, 2, none⟩ = some (.slice f.no.A r f.no.c) := by rw [← LR.out]; exact (HK2.out.below hB2 (by have := HK2.out.lt; omega)).cell 2
        by_cases hlt : k < r
        · have ka : k < f.no.l.length := by rw [LR.out]; exact hlt
          obtain ⟨b1, o1, e1, l1, c0⟩ := (H0.out.no.1.below hB).at noC_len rfl ka
          have d0 : wr.cell? ⟨b1, o1 + k * 3, none⟩ = some (.int .i64 f.no.l[k].fr) := c0 0 _ rfl
          have d1 : wr.cell? ⟨b1, o1 + k * 3 + 1, none⟩ = some (.int .i64 f.no.l[k].til) := c0 1 _ rfl
          have d2 : wr.cell? ⟨b1, o1 + k * 3 + 2, none⟩ = some (.string f.no.l[k].text) := c0 2 _ rfl
          obtain ⟨g1, g2, g3⟩ := no_at HOK.out HP.out ka
          have hk0 : (0 : Int) ≤ (k : Int) := by omega
          have hkn : (k : Int) < (r : Int) := by omega
          rw [e1] at q2
          rw [LF.out] at g3
          clear c0 e1
          cases hy : inB s f.no.l[k].fr (f.no.l[k].til - 1)
          · have HY := Lib.hid hy
            have HON : Hid (onB s f.no.l[k] = false) := by rw [Hid, onB_of]; exact hy
            clear hy
            have hnx : Hid (W = texP s (f.no.l.take (k + 1))) := by rw [Hid, texP_no ka HON.out]; exact hWt.out
            go_wp2_with fail
            go_quiet ((first | (go_at_call 80; first | with_reducible exact quiet_mine (l00In_v HY _) | with_reducible exact quiet_mine2 (l00In_v HY _))))
            go_wp2_with fail
            go_roundw
            case rel => exact ⟨k + 1, W, by omega, by go_num, hnx, by omega, HO.out.next (below_drewN (Below.refl _ _) _), below_drewN hB2 _⟩
            case measure => (simp [intOf]; try omega)
          · have HY := Lib.hid hy
            have HON : Hid (onB s f.no.l[k] = true) := by rw [Hid, onB_of]; exact hy
            clear hy
            have hnx : Hid (W ++ [f.no.l[k].text] = texP s (f.no.l.take (k + 1))) := by rw [Hid, texP_yes ka HON.out, hWt.out]
            obtain ⟨u, hu⟩ : ∃ u, W.length = u := ⟨_, rfl⟩
            have HU := Lib.hid hu
            have hub : u ≤ k := by omega
            clear hu
            go_wp2_with fail
            go_quiet ((first | (go_at_call 80; first | with_reducible exact quiet_mine (l00In_v HY _) | with_reducible exact quiet_mine2 (l00In_v HY _))))
            go_wp2_with (at_builtin; refine list_push elem_str (by rfl) (.tmp 40) (.tmp 47) 60 (by rfl) Try.underlying60 w2.heap.size _ W f.no.l[k].text (by rfl) ((HO.out.next (below_drewN (Below.refl _ _) nq)).alloc _) u HU.out wr.heap.size 1 (by rfl) (fun i u hu => ((show Bk ((wr.drewN nq).alloc (.cells #[.string f.no.l[k].text] 9)) wr.heap.size 9 #[.string f.no.l[k].text] from Bk.new (wr.drewN nq) _ _).cell i).trans (by simpa [sC] using hu)) (by unfold maxLen; omega) (by omega) (by simp only [World.size_alloc]; show w2.heap.size ≤ wr.heap.size + 1; omega) ?_; intro g5 cap5 w5 hown5 hgrow5 hat5 hlt5 hkeep5; have HO5 := Lib.hid hown5; have HG5 := Lib.hid hgrow5; clear hown5 hgrow5 hat5 hkeep5)
            go_roundw
            case rel => exact ⟨k + 1, W ++ [f.no.l[k].text], by omega, by go_num, hnx, by rw [List.length_append, HU.out]; simp; omega, HO5.out, ((below_drewN hB2 nq).alloc (show w2.heap.size ≤ wr.heap.size from hBs) (.cells #[.string f.no.l[k].text] 9)).grown HG5.out (by simp only [World.size_alloc]; show w2.heap.size ≤ wr.heap.size + 1; omega) HV2.out⟩
            case measure => (simp [intOf]; try omega)
        · have hT : f.no.l.take k = f.no.l := List.take_of_length_le (by rw [LR.out]; omega)
          have hall : Hid (W = texP s p.no) := by rw [Hid, hWt.out, hT, hpn.out]
          obtain ⟨A2, c2, hv, _, _, _⟩ := HO.out.rd
          subst hv
          have hWN : Hid (W.length = N) := by rw [Hid, hall.out]; exact hN.out
          rw [hWN.out]
          clear hT
          go_wp2_with fail
          refine bodyPost_ret (by simp [results, Try.results33, go_sem, *]; try rfl) rfl ?_
          have h9 := HO.out
          rw [hWN.out, hall.out] at h9
          exact ⟨A2, c2, rfl, h9.mono hz2, hB⟩
end Go.Proofs.Ytigingjpdlfanaa
