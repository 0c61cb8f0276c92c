/-
  ColumnOf: what program and reference answer, as one plain function.
-/
import Derived.Test.YtigingjpdlfanaaColumn
namespace Go.Proofs.Ytigingjpdlfanaa
set_option linter.unusedSimpArgs false
set_option linter.unusedVariables false
set_option maxRecDepth 20000
open Go.RowKit
open Go.ChangeShapes Go.WideShapes Go.Deep Go.Joins

def colP (st : List (List (List Int))) (z : Nat) : List Int := st.flatMap fun s => s.map fun r => r.getD z 0
def colR (b : Bool) (z : Int) (p : FlP) : List Int × Int := if b = true then (if z < 0 then ([], 3) else (colP p.st z.toNat, 0)) else ([], 1)
theorem colR_no (z : Int) (p : FlP) : colR false z p = ([], 1) := rfl
theorem colR_none {z : Int} (h : z < 0) (p : FlP) : colR true z p = ([], 3) := by unfold colR; rw [if_pos rfl, if_pos h]
theorem colR_yes {z : Int} (h : ¬ z < 0) (p : FlP) : colR true z p = (colP p.st z.toNat, 0) := by unfold colR; rw [if_pos rfl, if_neg h]
def colT (ss : List (Sl (Sl Int))) (z : Nat) : List Int := colP (ss.map rowsK.pl) z
def colI (l : List (Sl Int)) (z : Nat) : List Int := l.map fun r => r.l.getD z 0
theorem colT_next {ss : List (Sl (Sl Int))} {z k : Nat} (hk : k < ss.length) : colT (ss.take (k + 1)) z = colT (ss.take k) z ++ colI ss[k].l z := by
  unfold colT colP
  rw [List.take_succ_eq_append_getElem hk, List.map_append, List.flatMap_append]
  have e : rowsK.pl ss[k] = ss[k].l.map rowK.pl := rfl
  simp only [List.map_cons, List.map_nil, List.flatMap_cons, List.flatMap_nil, List.append_nil, e, List.map_map]
  congr 1
  unfold colI
  apply List.map_congr_left
  intro r _
  show (rowK.pl r).getD z 0 = _
  rw [rowK_pl]
theorem colI_next {l : List (Sl Int)} {z j : Nat} (hj : j < l.length) : colI (l.take (j + 1)) z = colI (l.take j) z ++ [l[j].l.getD z 0] := by
  unfold colI
  rw [List.take_succ_eq_append_getElem hj, List.map_append]
  rfl
theorem colP_len {cs : List Ch} {st : List (List (List Int))} (h : ∀ s ∈ st, StOk cs s) (z : Nat) : (colP st z).length ≤ 60 * st.length := by
  induction st with
  | nil => simp [colP]
  | cons s st ih =>
    have h1 := (h s (by simp)).hi
    have h2 := ih fun s hs => h s (by simp [hs])
    unfold colP at h2 ⊢
    rw [List.flatMap_cons, List.length_append, List.length_map, List.length_cons]
    omega
theorem colR_len {b : Bool} {z : Int} {p : FlP} (h : Is b (FileOk p)) : (colR b z p).1.length ≤ 1048576 := by
  cases b
  · rw [colR_no]; simp
  · by_cases hz : z < 0
    · rw [colR_none hz]; simp
    · rw [colR_yes hz]
      have hp := h.1 rfl
      have h1 := colP_len hp.sts z.toNat
      have := hp.s16
      simp only []
      omega
theorem row_get {cs : List Ch} {r : List Int} {k : Nat} (h : RowOk cs r) (hk : k < cs.length) : ∃ h : k < r.length, r.getD k 0 = r[k] := by
  have h1 : k < r.length := by rw [h.1]; exact hk
  exact ⟨h1, by simp [List.getD_eq_getElem?_getD, List.getElem?_eq_getElem h1]⟩
theorem stOk_at {p : FlP} {f : Fl} (h : FileOk p) (hp : filePl f = p) {k : Nat} (hk : k < f.st.l.length) : 1 ≤ f.st.l[k].l.length ∧ f.st.l[k].l.length ≤ 60 ∧ ∀ j (h : j < f.st.l[k].l.length), RowOk f.ch.l f.st.l[k].l[j].l := by
  subst hp
  have h1 := fileOk_iff.1 h
  exact stOk_iff.1 (h1.2.2.2.2.2.1 k hk hk)
set_option maxHeartbeats 8000000 in
theorem iColumnOf_L (f : Fl) (p : FlP) (s : ByteArray) (b : Bool) (z : Int) (L : List Int) (N : Nat) (code : Int) (w : World) (h : FileRd w f) (hp : filePl f = p) (hs : PlSz p) (ht : PlTx p) (hb : Is b (FileOk p)) (hz : Hid (idxZ p.ch s = z)) (hR : Hid (colR b z p = (L, code))) (hN : Hid (L.length = N)) :
    Calls Try.prog 29 #[.agg #[.slice f.ch.A f.ch.l.length f.ch.c, .slice f.st.A f.st.l.length f.st.c, .slice f.no.A f.no.l.length f.no.c], .string s] w fun e w' => ∃ A2 c2, e = .returned (.tuple #[.slice A2 N c2, .int .i64 code]) ∧ Own iC 2 1 w' w.heap.size (.slice A2 N c2) L ∧ Below w.heap.size w w' := by
  have HV : Is b (FileOk p) := hb
  have HP := Lib.hid hp
  have hpc : Hid (f.ch.l = p.ch) := congrArg FlP.ch hp
  have hps : Hid (f.st.l.map rowsK.pl = p.st) := congrArg FlP.st hp
  have HK : Hid (Bk (w.alloc (.cells #[.slice f.ch.A f.ch.l.length f.ch.c, .slice f.st.A f.st.l.length f.st.c, .slice f.no.A f.no.l.length f.no.c] 30)) w.heap.size 30 #[.slice f.ch.A f.ch.l.length f.ch.c, .slice f.st.A f.st.l.length f.st.c, .slice f.no.A f.no.l.length f.no.c]) := Bk.new w _ _
  have HA := Lib.hid (h.alloc (.cells #[.slice f.ch.A f.ch.l.length f.ch.c, .slice f.st.A f.st.l.length f.st.c, .slice f.no.A f.no.l.length f.no.c] 30))
  have H0 := Lib.hid h
  clear h hb
  cases b
  · have h2 := hR.out
    rw [colR_no] at h2
    obtain ⟨e1, e2⟩ : [] = L ∧ (1 : Int) = code := by injection h2 with e1 e2; exact ⟨e1, e2⟩
    subst e1; subst e2
    obtain rfl : 0 = N := hN.out
    go_enter Try.func29, Try.ntmps29
    go_wp2_with fail
    refine (iChannelNamed_L f p s false z 0 1 _ HA.out hp hs ht HV hz (by rw [Hid]; exact cnR_no z)).mono ?_
    rintro e w2 ⟨rfl, hb2⟩
    have hW : Below w.heap.size w w2 := Below.next (by go_grown) hb2
    clear hb2
    go_wp2_with fail
    refine bodyPost_ret (by simp [results, Try.results29, go_sem, *]; try rfl) rfl ?_
    exact ⟨none, 0, rfl, Own.nil _ _ _ _ _, hW⟩
  · cases hz0 : decide (z < 0)
    rotate_left
    · have hz1 : z < 0 := by simpa using hz0
      have h2 := hR.out
      rw [colR_none hz1] at h2
      obtain ⟨e1, e2⟩ : [] = L ∧ (3 : Int) = code := by injection h2 with e1 e2; exact ⟨e1, e2⟩
      subst e1; subst e2
      obtain rfl : 0 = N := hN.out
      have HC := Lib.hid (cnR_none hz1)
      clear hz1
      go_enter Try.func29, Try.ntmps29
      go_wp2_with fail
      refine (iChannelNamed_L f p s true z 0 3 _ HA.out hp hs ht HV hz (by rw [Hid]; exact HC.out)).mono ?_
      rintro e w2 ⟨rfl, hb2⟩
      have hW : Below w.heap.size w w2 := Below.next (by go_grown) hb2
      clear hb2
      go_wp2_with fail
      refine bodyPost_ret (by simp [results, Try.results29, go_sem, *]; try rfl) rfl ?_
      exact ⟨none, 0, rfl, Own.nil _ _ _ _ _, hW⟩
    · have hz1 : ¬ z < 0 := by simpa using hz0
      have h2 := hR.out
      rw [colR_yes hz1] at h2
      obtain ⟨e1, e2⟩ : colP p.st z.toNat = L ∧ (0 : Int) = code := by injection h2 with e1 e2; exact ⟨e1, e2⟩
      subst e1; subst e2
      have hzb := (idxZ_bd p.ch s).2
      rw [hz.out] at hzb
      obtain ⟨y, rfl⟩ : ∃ y : Nat, z = (y : Int) := ⟨z.toNat, by omega⟩
      have HC : Hid (cnR true (y : Int) = ((y : Int), 0)) := cnR_yes hz1
      have HOK := Lib.hid (HV.1 rfl)
      have HL : Hid (colP p.st y = colT f.st.l y) := by unfold colT; rw [Hid, hps.out]
      have hyc : y < f.ch.l.length := by rw [hpc.out]; omega
      have hyn : y ≤ 1048576 := by have := hs.ch; omega
      clear hz1 hz0 h2 hR hzb
      obtain ⟨m, hm⟩ : ∃ m, f.st.l.length = m := ⟨_, rfl⟩
      have hm16 : m ≤ 16 := by have h1 := HOK.out.s16; rw [← hps.out, List.length_map, hm] at h1; exact h1
      have LM := Lib.hid hm
      rw [hm] at HK HA ⊢
      clear hm
      go_enter Try.func29, Try.ntmps29
      go_wp2_with fail
      have hc := iChannelNamed_L f p s true (y : Int) (y : Int) 0 _ HA.out hp hs ht HV hz HC
      rw [LM.out] at hc
      refine hc.mono ?_
      rintro e w2 ⟨rfl, hb2⟩
      have hT2 : Below w.heap.size w w2 := Below.next (by go_grown) hb2
      have HK2 := HK.out.next hb2
      have hz2 := hT2.size
      clear hb2 hc
      have q1 := HK2.cell 1
      have ql := HK2.lt
      clear HK2
      go_wp2_with fail
      clear q1
      go_loopw [8, 25] (fun v i wr => ∃ (k : Nat) (W : List Int), k ≤ m ∧ i = .int .i64 (k : Int) ∧ Hid (W = colT (f.st.l.take k) y) ∧ W.length ≤ 60 * k ∧ Own iC 2 1 wr w2.heap.size v W ∧ Below w2.heap.size w2 wr) (fun _ i _ => m - (intOf i).toNat)
      case atStart => exact ⟨0, [], Nat.zero_le _, rfl, rfl, Nat.le_refl _, Own.nil _ _ _ _ _, by go_grown⟩
      case round =>
        obtain ⟨k, W, hk, rfl, hW, hWl, hown, hB2⟩ := hrel
        have hBs := hB2.size
        have hB : Below w.heap.size w wr := Below.next hT2 hB2
        have HO := Lib.hid hown
        have HV2 : Hid (∀ b, u8.ownBlock = some b → w2.heap.size ≤ b) := fun b hb => (hown.lt b hb).1
        clear hown
        obtain ⟨v8, rfl⟩ : ∃ v, v = u8 := ⟨u8, rfl⟩
        obtain ⟨wo, rfl⟩ : ∃ wo, wo = wr := ⟨wr, rfl⟩
        have hlo : w.heap.size < wo.heap.size := by omega
        by_cases hlt : k < m
        · have ka : k < f.st.l.length := by rw [LM.out]; exact hlt
          have hrd := (stK_ok.below H0.out.st hB).1
          obtain ⟨b1, o1, e1, l1, c0⟩ := hrd.at hdC_len rfl ka
          have d1 : wo.cell? ⟨b1, o1 + k, none⟩ = some (.slice f.st.l[k].A f.st.l[k].l.length f.st.l[k].c) := by simpa [Sl.val] using c0 0 _ rfl
          have hin := H0.out.st.2 _ (List.getElem_mem ka)
          obtain ⟨_, h60, hrows⟩ := stOk_at HOK.out HP.out ka
          have hnx : Hid (colT (f.st.l.take (k + 1)) y = colT (f.st.l.take k) y ++ colI f.st.l[k].l y) := colT_next ka
          obtain ⟨Ar, cr, l, hr⟩ : ∃ Ar cr l, f.st.l[k] = ⟨Ar, cr, l⟩ := ⟨f.st.l[k].A, f.st.l[k].c, f.st.l[k].l, rfl⟩
          rw [hr] at d1 hin h60 hnx
          have hrows2 : ∀ j (h : j < l.length), RowOk f.ch.l l[j].l := by rw [hr] at hrows; exact hrows
          simp only [] at d1 h60 hnx
          obtain ⟨q, hq⟩ : ∃ q, l.length = q := ⟨_, rfl⟩
          have rm : Rd w Ar l.length 1 (rowOf hdC l) := hin.1
          have rm2 : ∀ a ∈ l, rowK.rd w a := hin.2
          rw [hq] at rm d1 h60
          have RM := Lib.hid rm
          have RM2 := Lib.hid rm2
          have LQ := Lib.hid hq
          have HROW := Lib.hid hrows2
          have hk0 : (0 : Int) ≤ (k : Int) := by omega
          have hkn : (k : Int) < (m : Int) := by omega
          have E1 := Lib.hid e1
          rw [e1]
          have DD := Lib.hid d1
          clear hrd c0 hin hr rm rm2 hq hrows hrows2 e1
          go_wp2_with fail
          go_loopw [8, 32] (fun v i wr => ∃ (j : Nat) (U : List Int), j ≤ q ∧ i = .int .i64 (j : Int) ∧ Hid (U = W ++ colI (l.take j) y) ∧ U.length ≤ 60 * k + j ∧ Own iC 2 1 wr w2.heap.size v U ∧ Below w2.heap.size w2 wr) (fun _ i _ => q - (intOf i).toNat)
          case atStart => 
            have hb := hB2.alloc hBs (.cells #[.slice Ar q cr] 82)
            exact ⟨0, W, Nat.zero_le _, rfl, by simp [Hid, colI], by omega, HO.out.alloc _, hb⟩
          case round =>
            obtain ⟨j, U, hj, rfl, hU, hUl, hown2, hB3⟩ := hrel
            have hBs3 := hB3.size
            have hB4 : Below w.heap.size w wr := Below.next hT2 hB3
            have HO2 := Lib.hid hown2
            have HV3 : Hid (∀ b, u8.ownBlock = some b → w2.heap.size ≤ b) := fun b hb => (hown2.lt b hb).1
            clear hown2
            have hlr : w.heap.size < wr.heap.size := by omega
            by_cases hjlt : j < q
            · have kj : j < l.length := by rw [LQ.out]; exact hjlt
              obtain ⟨b2, o2, e2, l2, c1⟩ := (RM.out.below hB4).at hdC_len LQ.out kj
              have d2 : wr.cell? ⟨b2, o2 + j, none⟩ = some (.slice l[j].A l[j].l.length l[j].c) := by simpa [Sl.val] using c1 0 _ rfl
              have hin2 := (rowK_ok.below (RM2.out _ (List.getElem_mem kj)) hB4).1
              have hrow := HROW.out j kj
              have hnx2 : Hid (colI (l.take (j + 1)) y = colI (l.take j) y ++ [l[j].l.getD y 0]) := colI_next kj
              obtain ⟨A3, c3, r, hr⟩ : ∃ A3 c3 r, l[j] = ⟨A3, c3, r⟩ := ⟨l[j].A, l[j].c, l[j].l, rfl⟩
              rw [hr] at d2 hin2 hrow hnx2
              simp only [] at d2 hin2 hrow hnx2
              obtain ⟨hyr, hget⟩ := row_get hrow hyc
              rw [hget] at hnx2
              obtain ⟨t, hlt3⟩ : ∃ t, r.length = t := ⟨_, rfl⟩
              obtain ⟨x, hx⟩ : ∃ x, r[y] = x := ⟨_, rfl⟩
              obtain ⟨b3, o3, e3, l3, c4⟩ := hin2.at iC_len rfl hyr
              have d3 : wr.cell? ⟨b3, o3 + y, none⟩ = some (.int .i64 r[y]) := by simpa using c4 0 _ rfl
              rw [hx] at d3 hnx2
              rw [e3, hlt3] at d2
              have hyt : (y : Int) < (t : Int) := by rw [← hlt3]; omega
              have hy0 : (0 : Int) ≤ (y : Int) := by omega
              have ht : t ≤ 9223372036854775807 := by have := hrow.1; rw [hlt3] at this; have h5 := hs.ch; rw [← hpc.out] at h5; omega
              have hj0 : (0 : Int) ≤ (j : Int) := by omega
              have hjn : (j : Int) < (q : Int) := by omega
              have hnU : Hid (U ++ [x] = W ++ colI (l.take (j + 1)) y) := by rw [Hid, hnx2.out, hU.out, List.append_assoc]
              obtain ⟨u, hu⟩ : ∃ u, U.length = u := ⟨_, rfl⟩
              have HU := Lib.hid hu
              have hub : u ≤ 60 * k + j := by omega
              have E2 := Lib.hid e2
              rw [e2]
              clear c1 hin2 hrow hr hget hlt3 hx c4 e2 e3 hu hUl hyr hnx2
              go_wp2_with ((at_builtin; refine list_push elem_int (by rfl) (.tmp 36) (.tmp 41) 55 (by rfl) Try.underlying55 w2.heap.size _ U x (by rfl) (HO2.out.alloc _) u HU.out wr.heap.size 1 (by rfl) (fun i u hu => ((Bk.new wr #[.int .i64 x] 2).cell i).trans (by simpa [iC] using hu)) (by unfold maxLen; omega) (by omega) (by simp only [World.size_alloc]; omega) ?_; intro g5 cap5 w5 hown5 hgrow5 hat5 hlt5 hkeep5; have HO5 := Lib.hid hown5; have HG5 := Lib.hid hgrow5; clear hown5 hgrow5 hat5 hkeep5))
              go_roundw
              case rel =>
                have hb5 := (hB3.alloc hBs3 (.cells #[.int .i64 x] 2)).grown HG5.out (by simp only [World.size_alloc]; omega) HV3.out
                exact ⟨j + 1, U ++ [x], by omega, by go_num, hnU, by rw [List.length_append, HU.out]; simp; omega, HO5.out, hb5⟩
              case measure => (simp [intOf]; try omega)
            · have hT : l.take j = l := List.take_of_length_le (by rw [LQ.out]; omega)
              rw [hT] at hU
              go_wp2_with fail
              go_roundw
              case rel => exact ⟨k + 1, U, by omega, by go_num, by rw [Hid, hU.out, hnx.out, hW.out], by omega, HO2.out, hB3⟩
              case measure => (simp [intOf]; try omega)
        · have hT : f.st.l.take k = f.st.l := List.take_of_length_le (by rw [LM.out]; omega)
          have hall : Hid (W = colP p.st y) := by rw [Hid, hW.out, hT, HL.out]
          obtain ⟨A2, c2, hv, _, _, _⟩ := HO.out.rd
          subst hv
          have hWN : Hid (W.length = N) := by rw [Hid, hall.out]; exact hN.out
          rw [hWN.out]
          clear hT
          go_wp2_with fail
          refine bodyPost_ret (by simp [results, Try.results29, go_sem, *]; try rfl) rfl ?_
          have h9 := HO.out
          rw [hWN.out, hall.out] at h9
          exact ⟨A2, c2, rfl, h9.mono hz2, hB⟩
set_option maxHeartbeats 8000000 in
theorem sColumnOf_L (f : Fl) (p : FlP) (s : ByteArray) (b : Bool) (z : Int) (L : List Int) (N : Nat) (code : Int) (w : World) (h : FileRd w f) (hp : filePl f = p) (hs : PlSz p) (ht : PlTx p) (hb : Is b (FileOk p)) (hz : Hid (idxZ p.ch s = z)) (hR : Hid (colR b z p = (L, code))) (hN : Hid (L.length = N)) :
    Calls Try.prog 28 #[.agg #[.slice f.ch.A f.ch.l.length f.ch.c, .slice f.st.A f.st.l.length f.st.c, .slice f.no.A f.no.l.length f.no.c], .string s] w fun e w' => ∃ A2 c2, e = .returned (.tuple #[.slice A2 N c2, .int .i64 code]) ∧ Own iC 2 1 w' w.heap.size (.slice A2 N c2) L ∧ Below w.heap.size w w' := by
  have HV : Is b (FileOk p) := hb
  have HP := Lib.hid hp
  have hpc : Hid (f.ch.l = p.ch) := congrArg FlP.ch hp
  have hps : Hid (f.st.l.map rowsK.pl = p.st) := congrArg FlP.st hp
  have HK : Hid (Bk (w.alloc (.cells #[.slice f.ch.A f.ch.l.length f.ch.c, .slice f.st.A f.st.l.length f.st.c, .slice f.no.A f.no.l.length f.no.c] 30)) w.heap.size 30 #[.slice f.ch.A f.ch.l.length f.ch.c, .slice f.st.A f.st.l.length f.st.c, .slice f.no.A f.no.l.length f.no.c]) := Bk.new w _ _
  have HA := Lib.hid (h.alloc (.cells #[.slice f.ch.A f.ch.l.length f.ch.c, .slice f.st.A f.st.l.length f.st.c, .slice f.no.A f.no.l.length f.no.c] 30))
  have H0 := Lib.hid h
  clear h hb
  cases b
  · have h2 := hR.out
    rw [colR_no] at h2
    obtain ⟨e1, e2⟩ : [] = L ∧ (1 : Int) = code := by injection h2 with e1 e2; exact ⟨e1, e2⟩
    subst e1; subst e2
    obtain rfl : 0 = N := hN.out
    go_enter Try.func28, Try.ntmps28
    go_wp2_with fail
    refine (sOk_L _ f p false _ (FBox.of_bk HK.out) HA.out hp hs ht HV).mono ?_
    rintro e w2 ⟨rfl, hb2⟩
    have hW : Below w.heap.size w w2 := Below.next (by go_grown) hb2
    clear hb2
    go_wp2_with fail
    refine bodyPost_ret (by simp [results, Try.results28, go_sem, *]; try rfl) rfl ?_
    exact ⟨none, 0, rfl, Own.nil _ _ _ _ _, hW⟩
  · cases hz0 : decide (z < 0)
    rotate_left
    · have hz1 : z < 0 := by simpa using hz0
      have h2 := hR.out
      rw [colR_none hz1] at h2
      obtain ⟨e1, e2⟩ : [] = L ∧ (3 : Int) = code := by injection h2 with e1 e2; exact ⟨e1, e2⟩
      subst e1; subst e2
      obtain rfl : 0 = N := hN.out
      have HC := Lib.hid (cnR_none hz1)
      clear hz1
      go_enter Try.func28, Try.ntmps28
      go_wp2_with fail
      refine (sOk_L _ f p true _ (FBox.of_bk HK.out) HA.out hp hs ht HV).mono ?_
      rintro e w2 ⟨rfl, hb2⟩
      have hW : Below w.heap.size w w2 := Below.next (by go_grown) hb2
      have HA2 := Lib.hid (HA.out.below hb2)
      obtain ⟨q0, _, _, ql⟩ := fcells f _ _ _ (HK.out.next hb2)
      clear hb2
      go_wp2_with fail
      refine (l03Find_any _ _ _ _ f.ch.l s z _ q0 HA2.out.ch.1 rfl (by rw [hpc.out]; exact hs.ch) (by rw [Hid, hpc.out]; exact hz.out)).mono ?_
      rintro e w3 ⟨rfl, rfl⟩
      go_wp2_with fail
      refine bodyPost_ret (by simp [results, Try.results28, go_sem, *]; try rfl) rfl ?_
      exact ⟨none, 0, rfl, Own.nil _ _ _ _ _, hW⟩
    · have hz1 : ¬ z < 0 := by simpa using hz0
      have h2 := hR.out
      rw [colR_yes hz1] at h2
      obtain ⟨e1, e2⟩ : colP p.st z.toNat = L ∧ (0 : Int) = code := by injection h2 with e1 e2; exact ⟨e1, e2⟩
      subst e1; subst e2
      have hzb := (idxZ_bd p.ch s).2
      rw [hz.out] at hzb
      obtain ⟨y, rfl⟩ : ∃ y : Nat, z = (y : Int) := ⟨z.toNat, by omega⟩
      have HC : Hid (cnR true (y : Int) = ((y : Int), 0)) := cnR_yes hz1
      have HOK := Lib.hid (HV.1 rfl)
      have HL : Hid (colP p.st y = colT f.st.l y) := by unfold colT; rw [Hid, hps.out]
      have hyc : y < f.ch.l.length := by rw [hpc.out]; omega
      have hyn : y ≤ 1048576 := by have := hs.ch; omega
      clear hz1 hz0 h2 hR hzb
      obtain ⟨m, hm⟩ : ∃ m, f.st.l.length = m := ⟨_, rfl⟩
      have hm16 : m ≤ 16 := by have h1 := HOK.out.s16; rw [← hps.out, List.length_map, hm] at h1; exact h1
      have LM := Lib.hid hm
      rw [hm] at HK HA ⊢
      clear hm
      go_enter Try.func28, Try.ntmps28
      go_wp2_with fail
      have hbx : FBox (w.alloc (.cells #[.slice f.ch.A f.ch.l.length f.ch.c, .slice f.st.A m f.st.c, .slice f.no.A f.no.l.length f.no.c] 30)) w.heap.size f := FBox.of_bk (by rw [LM.out]; exact HK.out)
      refine (sOk_L _ f p true _ hbx HA.out hp hs ht HV).mono ?_
      rintro e w2 ⟨rfl, hb2⟩
      have hT2 : Below w.heap.size w w2 := Below.next (by go_grown) hb2
      have HK2 := Lib.hid (HK.out.next hb2)
      have hz2 := hT2.size
      have HA2 := Lib.hid (HA.out.below hb2)
      have q0 := HK2.out.cell 0
      have ql := HK2.out.lt
      clear hb2 hbx
      go_wp2_with fail
      refine (l03Find_any _ _ _ _ f.ch.l s (y : Int) _ q0 HA2.out.ch.1 rfl (by rw [hpc.out]; exact hs.ch) (by rw [Hid, hpc.out]; exact hz.out)).mono ?_
      rintro e w3 ⟨rfl, rfl⟩
      clear q0
      go_wp2_with fail
      go_loopw [7, 8] (fun v i wr => ∃ (k : Nat) (W : List Int), k ≤ m ∧ i = .int .i64 (k : Int) ∧ Hid (W = colT (f.st.l.take k) y) ∧ W.length ≤ 60 * k ∧ Own iC 2 1 wr w2.heap.size v W ∧ Below w2.heap.size w2 wr) (fun _ i _ => m - (intOf i).toNat)
      case atStart => exact ⟨0, [], Nat.zero_le _, rfl, rfl, Nat.le_refl _, Own.empty (Bk.new w2 #[] 2) (Nat.le_refl _), by go_grown⟩
      case round =>
        obtain ⟨k, W, hk, rfl, hW, hWl, hown, hB2⟩ := hrel
        have hBs := hB2.size
        have hB : Below w.heap.size w wr := Below.next hT2 hB2
        have HO := Lib.hid hown
        have HV2 : Hid (∀ b, u7.ownBlock = some b → w2.heap.size ≤ b) := fun b hb => (hown.lt b hb).1
        clear hown
        obtain ⟨v8, rfl⟩ : ∃ v, v = u7 := ⟨u7, rfl⟩
        obtain ⟨wo, rfl⟩ : ∃ wo, wo = wr := ⟨wr, rfl⟩
        have hlo : w.heap.size < wo.heap.size := by omega
        have q1 : wo.cell? ⟨w.heap.size, 1, none⟩ = some (.slice f.st.A m f.st.c) := (HK2.out.below hB2 (by have := HK2.out.lt; omega)).cell 1
        by_cases hlt : k < m
        · have ka : k < f.st.l.length := by rw [LM.out]; exact hlt
          have hrd := (stK_ok.below H0.out.st hB).1
          obtain ⟨b1, o1, e1, l1, c0⟩ := hrd.at hdC_len rfl ka
          have d1 : wo.cell? ⟨b1, o1 + k, none⟩ = some (.slice f.st.l[k].A f.st.l[k].l.length f.st.l[k].c) := by simpa [Sl.val] using c0 0 _ rfl
          have hin := H0.out.st.2 _ (List.getElem_mem ka)
          obtain ⟨_, h60, hrows⟩ := stOk_at HOK.out HP.out ka
          have hnx : Hid (colT (f.st.l.take (k + 1)) y = colT (f.st.l.take k) y ++ colI f.st.l[k].l y) := colT_next ka
          obtain ⟨Ar, cr, l, hr⟩ : ∃ Ar cr l, f.st.l[k] = ⟨Ar, cr, l⟩ := ⟨f.st.l[k].A, f.st.l[k].c, f.st.l[k].l, rfl⟩
          rw [hr] at d1 hin h60 hnx
          have hrows2 : ∀ j (h : j < l.length), RowOk f.ch.l l[j].l := by rw [hr] at hrows; exact hrows
          simp only [] at d1 h60 hnx
          obtain ⟨q, hq⟩ : ∃ q, l.length = q := ⟨_, rfl⟩
          have rm : Rd w Ar l.length 1 (rowOf hdC l) := hin.1
          have rm2 : ∀ a ∈ l, rowK.rd w a := hin.2
          rw [hq] at rm d1 h60
          have HRW := Lib.hid hr
          have RM := Lib.hid rm
          have RM2 := Lib.hid rm2
          have LQ := Lib.hid hq
          have HROW := Lib.hid hrows2
          have hk0 : (0 : Int) ≤ (k : Int) := by omega
          have hkn : (k : Int) < (m : Int) := by omega
          have E1 := Lib.hid e1
          rw [e1] at q1
          have DD := Lib.hid d1
          clear hrd c0 hin hr rm rm2 hq hrows hrows2 e1
          go_wp2_with fail
          go_loopw [7, 9] (fun v i wr => ∃ (j : Nat) (U : List Int), j ≤ q ∧ i = .int .i64 (j : Int) ∧ Hid (U = W ++ colI (l.take j) y) ∧ U.length ≤ 60 * k + j ∧ Own iC 2 1 wr w2.heap.size v U ∧ Below w2.heap.size w2 wr) (fun _ i _ => q - (intOf i).toNat)
          case atStart => exact ⟨0, W, Nat.zero_le _, rfl, by simp [Hid, colI], by omega, HO.out, hB2⟩
          case round =>
            obtain ⟨j, U, hj, rfl, hU, hUl, hown2, hB3⟩ := hrel
            have hBs3 := hB3.size
            have hB4 : Below w.heap.size w wr := Below.next hT2 hB3
            have HO2 := Lib.hid hown2
            have HV3 : Hid (∀ b, u7.ownBlock = some b → w2.heap.size ≤ b) := fun b hb => (hown2.lt b hb).1
            clear hown2
            have hlr : w.heap.size < wr.heap.size := by omega
            have p0 : wr.cell? ⟨w.heap.size, 1, none⟩ = some (.slice f.st.A m f.st.c) := (HK2.out.below hB3 (by have := HK2.out.lt; omega)).cell 1
            rw [E1.out] at p0
            have p1 : wr.cell? ⟨b1, o1 + k, none⟩ = some (.slice Ar q cr) := by
              obtain ⟨b9, o9, e9, _, c9⟩ := (stK_ok.below H0.out.st hB4).1.at hdC_len rfl ka
              rw [E1.out] at e9
              cases e9
              have c8 : wr.cell? ⟨b1, o1 + k, none⟩ = some (.slice f.st.l[k].A f.st.l[k].l.length f.st.l[k].c) := by simpa [Sl.val] using c9 0 _ rfl
              rw [HRW.out] at c8
              rw [← LQ.out]; exact c8
            by_cases hjlt : j < q
            · have kj : j < l.length := by rw [LQ.out]; exact hjlt
              obtain ⟨b2, o2, e2, l2, c1⟩ := (RM.out.below hB4).at hdC_len LQ.out kj
              have d2 : wr.cell? ⟨b2, o2 + j, none⟩ = some (.slice l[j].A l[j].l.length l[j].c) := by simpa [Sl.val] using c1 0 _ rfl
              have hin2 := (rowK_ok.below (RM2.out _ (List.getElem_mem kj)) hB4).1
              have hrow := HROW.out j kj
              have hnx2 : Hid (colI (l.take (j + 1)) y = colI (l.take j) y ++ [l[j].l.getD y 0]) := colI_next kj
              obtain ⟨A3, c3, r, hr⟩ : ∃ A3 c3 r, l[j] = ⟨A3, c3, r⟩ := ⟨l[j].A, l[j].c, l[j].l, rfl⟩
              rw [hr] at d2 hin2 hrow hnx2
              simp only [] at d2 hin2 hrow hnx2
              obtain ⟨hyr, hget⟩ := row_get hrow hyc
              rw [hget] at hnx2
              obtain ⟨t, hlt3⟩ : ∃ t, r.length = t := ⟨_, rfl⟩
              obtain ⟨x, hx⟩ : ∃ x, r[y] = x := ⟨_, rfl⟩
              obtain ⟨b3, o3, e3, l3, c4⟩ := hin2.at iC_len rfl hyr
              have d3 : wr.cell? ⟨b3, o3 + y, none⟩ = some (.int .i64 r[y]) := by simpa using c4 0 _ rfl
              rw [hx] at d3 hnx2
              rw [e3, hlt3] at d2
              have hyt : (y : Int) < (t : Int) := by rw [← hlt3]; omega
              have hy0 : (0 : Int) ≤ (y : Int) := by omega
              have ht : t ≤ 9223372036854775807 := by have := hrow.1; rw [hlt3] at this; have h5 := hs.ch; rw [← hpc.out] at h5; omega
              have hj0 : (0 : Int) ≤ (j : Int) := by omega
              have hjn : (j : Int) < (q : Int) := by omega
              have hnU : Hid (U ++ [x] = W ++ colI (l.take (j + 1)) y) := by rw [Hid, hnx2.out, hU.out, List.append_assoc]
              obtain ⟨u, hu⟩ : ∃ u, U.length = u := ⟨_, rfl⟩
              have HU := Lib.hid hu
              have hub : u ≤ 60 * k + j := by omega
              have E2 := Lib.hid e2
              rw [e2] at p1
              clear c1 hin2 hrow hr hget hlt3 hx c4 e2 e3 hu hUl hyr hnx2
              go_wp2_with ((at_builtin; refine list_push elem_int (by rfl) (.tmp 35) (.tmp 48) 55 (by rfl) Try.underlying55 w2.heap.size _ U x (by rfl) (HO2.out.alloc _) u HU.out wr.heap.size 1 (by rfl) (fun i u hu => ((Bk.new wr #[.int .i64 x] 2).cell i).trans (by simpa [iC] using hu)) (by unfold maxLen; omega) (by omega) (by simp only [World.size_alloc]; omega) ?_; intro g5 cap5 w5 hown5 hgrow5 hat5 hlt5 hkeep5; have HO5 := Lib.hid hown5; have HG5 := Lib.hid hgrow5; clear hown5 hgrow5 hat5 hkeep5))
              go_roundw
              case rel =>
                have hb5 := (hB3.alloc hBs3 (.cells #[.int .i64 x] 2)).grown HG5.out (by simp only [World.size_alloc]; omega) HV3.out
                exact ⟨j + 1, U ++ [x], by omega, by go_num, hnU, by rw [List.length_append, HU.out]; simp; omega, HO5.out, hb5⟩
              case measure => (simp [intOf]; try omega)
            · have hT : l.take j = l := List.take_of_length_le (by rw [LQ.out]; omega)
              rw [hT] at hU
              go_wp2_with fail
              go_roundw
              case rel => exact ⟨k + 1, U, by omega, by go_num, by rw [Hid, hU.out, hnx.out, hW.out], by omega, HO2.out, hB3⟩
              case measure => (simp [intOf]; try omega)
        · have hT : f.st.l.take k = f.st.l := List.take_of_length_le (by rw [LM.out]; omega)
          have hall : Hid (W = colP p.st y) := by rw [Hid, hW.out, hT, HL.out]
          obtain ⟨A2, c2, hv, _, _, _⟩ := HO.out.rd
          subst hv
          have hWN : Hid (W.length = N) := by rw [Hid, hall.out]; exact hN.out
          rw [hWN.out]
          clear hT
          go_wp2_with fail
          refine bodyPost_ret (by simp [results, Try.results28, go_sem, *]; try rfl) rfl ?_
          have h9 := HO.out
          rw [hWN.out, hall.out] at h9
          exact ⟨A2, c2, rfl, h9.mono hz2, hB⟩
end Go.Proofs.Ytigingjpdlfanaa
