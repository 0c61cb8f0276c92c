/-
  The file of an ink, in plain words; refusals of program and reference. The file of a valid ink, as the program makes it. The file of an ink, as the reference makes it: refusals. The file of a valid ink, as the reference makes it. What the law of FileOfInk asks: sizes of an ink's file; a file beside an ink that is marked. FileOfInk: what program and reference answer, as one plain function. What the laws with a file for a result share: marks of a file of known contents.
-/
import Derived.Test.YtigingjpdlfanaaFilea
import Derived.Test.YtigingjpdlfanaaInkOka
import Derived.Test.YtigingjpdlfanaaInkMka
namespace Go.Proofs.Ytigingjpdlfanaa
set_option linter.unusedSimpArgs false
set_option linter.unusedVariables false
set_option maxRecDepth 20000
open Go.RowKit
open Go.ChangeShapes Go.WideShapes Go.Deep Go.Joins

theorem row_info : (Try.prog.info? 55).map (fun i => (i.zero, i.size, i.bytes)) = some (some (.slice none 0 0), 1, 24) := by kernel_rfl
theorem rows_info : (Try.prog.info? 82).map (fun i => (i.zero, i.size, i.bytes)) = some (some (.agg #[.slice none 0 0]), 1, 24) := by kernel_rfl
theorem elem_row : Elem (hdC (α := Int)) 55 1 24 where
  len _ := rfl
  one a u hu := by simp [hdC, Sl.val] at hu; subst hu; rfl
  pos := by omega
  info := by
    obtain ⟨i, h1, h2, h3, h4⟩ := info_parts row_info
    exact ⟨i, _, h1, h2, h3, h4, rfl⟩
theorem elem_rows : Elem (hdC (α := Sl Int)) 82 1 24 where
  len _ := rfl
  one a u hu := by simp [hdC, Sl.val] at hu; subst hu; rfl
  pos := by omega
  info := by
    obtain ⟨i, h1, h2, h3, h4⟩ := info_parts rows_info
    exact ⟨i, _, h1, h2, h3, h4, rfl⟩
def rowPt (p : Pt) : List Int := [p.x, p.y, p.t]
def inkSt (P : List (List Pt)) : List (List (List Int)) := P.map fun l => l.map rowPt
def chs3 : List Ch := [⟨⟨#[120]⟩, ⟨#[100, 111, 116]⟩, 0, 4095⟩, ⟨⟨#[121]⟩, ⟨#[100, 111, 116]⟩, 0, 4095⟩, ⟨⟨#[116]⟩, ⟨#[109, 115]⟩, 0, 3600000⟩]
theorem iFileOfInk_bad (A : Option Addr) (n c : Nat) (S : List St) (w : World) (h : InkRd w A n S) (hs : ∀ s ∈ S, s.l.length ≤ 1048576) (hn : n ≤ 1048576) (hv : inkB (ptsOf S) = false) :
    Calls Try.prog 14 #[.agg #[.slice A n c]] w fun e w' => e = .returned (.tuple #[.agg #[.slice none 0 0, .slice none 0 0, .slice none 0 0], .int .i64 1]) ∧ Below w.heap.size w w' := by
  have HA := Lib.hid ((h.alloc (.cells #[.slice A n c] 35)).alloc (.cells #[.slice none 0 0, .slice none 0 0, .slice none 0 0] 30))
  have HV := Lib.hid hv
  clear h hv
  have hr0 := Bk.new1 w (.cells #[.slice A n c] 35) #[.slice none 0 0, .slice none 0 0, .slice none 0 0] 30
  go_enter Try.func14, Try.ntmps14
  go_wp2_with fail
  have hc := validInk_any A n c S _ HA.out hs hn
  rw [show inkB (ptsOf S) = false from HV.out] at hc
  refine hc.mono ?_
  rintro e w2 ⟨rfl, hb2⟩
  have hr2 := hr0.next hb2
  have hgr := hr2.lt
  have e0 := hr2.cell 0
  have e1 := hr2.cell 1
  have e2 := hr2.cell 2
  have f0 := hr2.frozen 0
  have f1 := hr2.frozen 1
  have f2 := hr2.frozen 2
  have hB : Below w.heap.size w w2 := Below.next (by go_grown) hb2
  clear hb2 hc
  go_wp2_with fail
  refine bodyPost_ret (by simp [results, Try.results14, go_sem, *]; try rfl) rfl ?_
  exact ⟨rfl, by go_grown⟩
end Go.Proofs.Ytigingjpdlfanaa
namespace Go.Proofs.Ytigingjpdlfanaa
set_option linter.unusedSimpArgs false
set_option linter.unusedVariables false
set_option maxRecDepth 20000
open Go.RowKit
open Go.ChangeShapes Go.WideShapes Go.Deep Go.Joins

theorem ChgF.setCell (w : World) (g o : Nat) (u : Value) : ChgF [g] w (w.setCell ⟨g, o, none⟩ u) :=
  ⟨rfl, rfl, rfl, by simp [World.setCell], fun k hk hn => Below.heap_setCell w _ u k (by simpa using hn)⟩
theorem rowsK_pl_push {r : Sl (Sl Int)} {l : List Pt} {j : Nat} (hj : j < l.length) (h : rowsK.pl r = (l.take j).map rowPt) {A A2 : Option Addr} {c c2 : Nat} : rowsK.pl ⟨A2, c2, r.l ++ [⟨A, c, rowPt l[j]⟩]⟩ = (l.take (j + 1)).map rowPt := by
  have h1 : rowsK.pl ⟨A2, c2, r.l ++ [⟨A, c, rowPt l[j]⟩]⟩ = rowsK.pl r ++ [rowPt l[j]] := by
    show (r.l ++ [_]).map rowK.pl = r.l.map rowK.pl ++ [rowPt l[j]]
    rw [List.map_append, List.map_singleton, rowK_pl]
  rw [h1, h, List.take_succ_eq_append_getElem hj, List.map_append]
  rfl
theorem stK_pl_push {s : Sl (Sl (Sl Int))} {P : List (List Pt)} {k : Nat} (hk : k < P.length) (h : stK.pl s = inkSt (P.take k)) {r : Sl (Sl Int)} (hr : rowsK.pl r = P[k].map rowPt) {A2 : Option Addr} {c2 : Nat} : stK.pl ⟨A2, c2, s.l ++ [r]⟩ = inkSt (P.take (k + 1)) := by
  have h1 : stK.pl ⟨A2, c2, s.l ++ [r]⟩ = stK.pl s ++ [P[k].map rowPt] := by
    show (s.l ++ [_]).map rowsK.pl = s.l.map rowsK.pl ++ [_]
    rw [List.map_append, List.map_singleton, hr]
  rw [h1, h, List.take_succ_eq_append_getElem hk]
  simp only [inkSt, List.map_append, List.map_singleton]
theorem file_fin {wo wf : World} {x m lo : Nat} {st : Sl (Sl (Sl Int))} (hc : ChgF [x] wo wf) (hx : x < m) (hlo : lo ≤ m) (hm : Bk wo m 79 (rowOf chC chs3).toArray) (hs : Mine stK wo (m + 1 + 1) wo.heap.size st) :
    FileMine wf lo wf.heap.size ⟨⟨some ⟨m, 0, none⟩, 3, chs3⟩, st, ⟨none, 0, []⟩⟩ := by
  have hml := hm.lt
  have hsz := hc.size
  have z : ∀ L : List Ch, L.flatMap (fun _ => ([] : List Nat)) = [] := fun L => by simp
  have hfp : chsK.fp ⟨some ⟨m, 0, none⟩, 3, chs3⟩ = [m] := rfl
  have hnp : nosK.fp ⟨none, 0, []⟩ = [] := rfl
  have hst : Mine stK wf (m + 1 + 1) wo.heap.size st := hs.chg stK_ok hc fun b hb hm2 => by have := hs.rng b hb; simp at hm2; omega
  refine ⟨Mine.fresh (l := chs3) chC_len (hc.bk hm (by simp; omega)) (by show 3 ≤ maxLen; decide) hlo (by omega), hst.low (by omega) hsz, Mine.nil _ _ _ _ _, fun b hb => ?_, fun b hb => ?_, fun b hb => ?_⟩
  · rw [hfp, List.mem_singleton] at hb
    subst hb
    intro h2
    have := hs.rng _ h2
    omega
  · show b ∉ nosK.fp ⟨none, 0, []⟩
    rw [hnp]; simp
  · show b ∉ nosK.fp ⟨none, 0, []⟩
    rw [hnp]; simp
set_option maxHeartbeats 4000000 in
theorem iFileOfInk_ok (A : Option Addr) (n c : Nat) (S : List St) (w : World) (h : InkRd w A n S) (hs : ∀ s ∈ S, s.l.length ≤ 1048576) (hn : n ≤ 1048576) (hv : inkB (ptsOf S) = true) :
    Calls Try.prog 14 #[.agg #[.slice A n c]] w fun e w' => ∃ f : Fl, e = .returned (.tuple #[.agg #[.slice f.ch.A f.ch.l.length f.ch.c, .slice f.st.A f.st.l.length f.st.c, .slice f.no.A f.no.l.length f.no.c], .int .i64 0]) ∧ filePl f = ⟨chs3, inkSt (ptsOf S), []⟩ ∧ FileMine w' w.heap.size w'.heap.size f ∧ Below w.heap.size w w' := by
  have HA := Lib.hid ((h.alloc (.cells #[.slice A n c] 35)).alloc (.cells #[.slice none 0 0, .slice none 0 0, .slice none 0 0] 30))
  have HV := Lib.hid hv
  have H0 := Lib.hid h
  have HLN := Lib.hid h.len
  clear h hv
  have hr0 := Bk.new1 w (.cells #[.slice A n c] 35) #[.slice none 0 0, .slice none 0 0, .slice none 0 0] 30
  go_enter Try.func14, Try.ntmps14
  go_wp2_with fail
  have hc := validInk_any A n c S _ HA.out hs hn
  rw [show inkB (ptsOf S) = true from HV.out] at hc
  refine hc.mono ?_
  rintro e w2 ⟨rfl, hb2⟩
  have hr2 := hr0.next hb2
  have hI2 : Bk w2 w.heap.size 35 #[.slice A n c] := ((Bk.new w #[.slice A n c] 35).alloc _).next hb2
  obtain ⟨eI, fI⟩ := bk1 hI2
  have hgI := hI2.lt
  have hgr := hr2.lt
  have e0 := hr2.cell 0
  have e1 := hr2.cell 1
  have e2 := hr2.cell 2
  have f0 := hr2.frozen 0
  have f1 := hr2.frozen 1
  have f2 := hr2.frozen 2
  have hB : Below w.heap.size w w2 := Below.next (by go_grown) hb2
  clear hb2 hc
  go_wp2_with fail
  have hCB : Hid (Bk ((w2.alloc (.cells (rowOf chC chs3).toArray 79)).alloc (.cells #[.slice (some ⟨w2.heap.size, 0, none⟩) 3 3, .slice none 0 0, .slice none 0 0] 30)) w2.heap.size 79 (rowOf chC chs3).toArray) := (Bk.new w2 _ _).alloc _
  have hFB : Bk ((w2.alloc (.cells (rowOf chC chs3).toArray 79)).alloc (.cells #[.slice (some ⟨w2.heap.size, 0, none⟩) 3 3, .slice none 0 0, .slice none 0 0] 30)) (w2.heap.size + 1) 30 #[.slice (some ⟨w2.heap.size, 0, none⟩) 3 3, .slice none 0 0, .slice none 0 0] := Bk.new1 w2 _ _ _
  have hB23 : Hid (Below w2.heap.size w2 ((w2.alloc (.cells (rowOf chC chs3).toArray 79)).alloc (.cells #[.slice (some ⟨w2.heap.size, 0, none⟩) 3 3, .slice none 0 0, .slice none 0 0] 30))) := (Below.alloc (Below.refl _ _) (Nat.le_refl _) _).alloc (by simp) _
  have hz3 : ((w2.alloc (.cells (rowOf chC chs3).toArray 79)).alloc (.cells #[.slice (some ⟨w2.heap.size, 0, none⟩) 3 3, .slice none 0 0, .slice none 0 0] 30)).heap.size = w2.heap.size + 1 + 1 := by simp
  change Code.wp _ _ _ _ ((w2.alloc (.cells (rowOf chC chs3).toArray 79)).alloc (.cells #[.slice (some ⟨w2.heap.size, 0, none⟩) 3 3, .slice none 0 0, .slice none 0 0] 30))
  generalize ((w2.alloc (.cells (rowOf chC chs3).toArray 79)).alloc (.cells #[.slice (some ⟨w2.heap.size, 0, none⟩) 3 3, .slice none 0 0, .slice none 0 0] 30)) = W3 at hCB hFB hB23 hz3 ⊢
  have HB3 : Hid (Below w.heap.size w W3) := Below.trans hB (hB23.out.mono (by omega))
  have hr3 := hr2.below hB23.out (by omega)
  have HA3 : Hid (InkRd W3 A n S) := H0.out.below HB3.out
  obtain ⟨m, hm⟩ : ∃ m, w2.heap.size = m := ⟨_, rfl⟩
  rw [hm] at hCB hFB hB23 hz3 hgI hgr
  rw [hm]
  have hmw : w.heap.size + 1 < m := hgr
  clear HA e0 e1 e2 f0 f1 f2 eI fI hr2 hI2 hr0 hB
  go_loopw [22] (fun i wo => ∃ (k : Nat) (st : Sl (Sl (Sl Int))), k ≤ n ∧ i = .int .i64 (k : Int) ∧ Hid (st.l.length = k) ∧ Hid (stK.pl st = inkSt ((ptsOf S).take k)) ∧ Bk wo (m + 1) 30 #[.slice (some ⟨m, 0, none⟩) 3 3, .slice st.A k st.c, .slice none 0 0] ∧ Hid (Mine stK wo (m + 1 + 1) wo.heap.size st) ∧ Below (m + 1) W3 wo) (fun i _ => n - (intOf i).toNat)
  case atStart => exact ⟨0, ⟨none, 0, []⟩, Nat.zero_le _, rfl, rfl, rfl, hFB, Mine.nil _ _ _ _ _, Below.refl _ _⟩
  case round =>
    obtain ⟨wo, rfl⟩ : ∃ wo, wo = wr := ⟨wr, rfl⟩
    obtain ⟨k, st, hk, rfl, hsl, hpl, hbk, hM, hW⟩ := hrel
    have hWs := hW.size
    have hW0 : Below w.heap.size w wo := HB3.out.trans (hW.mono (by omega))
    have eo0 := hbk.cell 0
    have eo1 := hbk.cell 1
    have eo2 := hbk.cell 2
    have fo0 := hbk.frozen 0
    have fo1 := hbk.frozen 1
    have fo2 := hbk.frozen 2
    have hgl := hbk.lt
    by_cases hlt : k < n
    · have ka : k < S.length := by have := HLN.out; omega
      obtain ⟨b1, o1, rfl, l1, c1, p1⟩ := (H0.out.below hW0).at ka
      have hsl3 := hs _ (List.getElem_mem ka)
      have P1 := Lib.hid p1
      have hI0 : Hid (Bk ((wo.alloc (.cells #[.slice S[k].A S[k].l.length S[k].c] 85)).alloc (.cells #[.slice none 0 0] 82)) (wo.heap.size + 1) 82 #[.slice none 0 0]) := Bk.new1 wo _ _ _
      clear p1
      go_wp2_with fail
      go_loopw [29] (fun i wr => ∃ (j : Nat) (r : Sl (Sl Int)), j ≤ S[k].l.length ∧ i = .int .i64 (j : Int) ∧ Hid (r.l.length = j) ∧ Hid (rowsK.pl r = (S[k].l.take j).map rowPt) ∧ Bk wr (wo.heap.size + 1) 82 #[.slice r.A j r.c] ∧ Hid (Mine rowsK wr ((wo.heap.size + 1) + 1) wr.heap.size r) ∧ Below (wo.heap.size + 1) ((wo.alloc (.cells #[.slice S[k].A S[k].l.length S[k].c] 85)).alloc (.cells #[.slice none 0 0] 82)) wr) (fun i _ => S[k].l.length - (intOf i).toNat)
      case atStart => exact ⟨0, ⟨none, 0, []⟩, Nat.zero_le _, rfl, rfl, rfl, hI0.out, Mine.nil _ _ _ _ _, Below.refl _ _⟩
      case round =>
        obtain ⟨j, r, hj, rfl, hrl, hrp, hbk2, hMr, hB2⟩ := hrel
        have hgl2 := hbk2.lt
        have hBs := hB2.size
        simp only [World.size_alloc] at hBs
        obtain ⟨e0, f0⟩ := bk1 hbk2
        have hB0 : Below wo.heap.size wo wr := ((Below.alloc (Below.refl _ _) (Nat.le_refl _) (.cells #[.slice S[k].A S[k].l.length S[k].c] 85)).alloc (by simp) (.cells #[.slice none 0 0] 82)).trans (hB2.mono (by omega))
        by_cases hjlt : j < S[k].l.length
        · have HP : Hid (Rd wr S[k].A S[k].l.length 3 (rowOf ptC S[k].l)) := P1.out.below hB0
          obtain ⟨b3, o3, e3, l3, a1, a2, a3⟩ := HP.out.pt rfl hjlt
          have E3 := Lib.hid e3
          have hj0 : (0 : Int) ≤ (j : Int) := by omega
          have hjn : (j : Int) < (S[k].l.length : Int) := by omega
          have hb3 : ¬ wr.heap.size = (wo.heap.size + 1) := by omega
          obtain ⟨vr, hvr⟩ : ∃ vr, Value.slice r.A j r.c = vr := ⟨_, rfl⟩
          have hrv : r.val = vr := by rw [← hvr, ← hrl.out]; rfl
          have HO : Hid (Own hdC 55 1 wr 0 vr r.l) := by rw [← hrv]; exact hMr.out.own.1
          have HVR := Lib.hid hvr
          have HRV := Lib.hid hrv
          rw [hvr] at hbk2 e0
          obtain ⟨y, hy⟩ : ∃ y : Sl Int, y = ⟨some ⟨wr.heap.size + 1, 0, none⟩, 3, rowPt S[k].l[j]⟩ := ⟨_, rfl⟩
          have HY := Lib.hid hy
          have hyv : Hid (y.val = .slice (some ⟨wr.heap.size + 1, 0, none⟩) 3 3) := by rw [Hid, hy]; rfl
          rw [e3]
          clear e3 hvr hrv hy
          have hbk3 := Lib.hid hbk2
          have HI : Hid (∀ b, vr.ownBlock = some b → wo.heap.size + 1 + 1 ≤ b ∧ b < wr.heap.size) := fun b hb => hMr.out.rng b (Kd.fp_top (s := r) (by rw [HRV.out]; exact hb))
          go_wp2_with ((at_builtin; refine list_push elem_row (by rfl) (.tmp 34) (.tmp 42) 80 (by rfl) Try.underlying80 0 vr r.l y (by rfl) (((HO.out.alloc _).alloc _).alloc _) j hrl.out (wr.heap.size + 1 + 1) 1 (by rfl) (fun i u hu => ((Bk.new2 wr (.cells #[.int .i64 S[k].l[j].x, .int .i64 S[k].l[j].y, .int .i64 S[k].l[j].t] 87) (.cells #[.int .i64 S[k].l[j].x, .int .i64 S[k].l[j].y, .int .i64 S[k].l[j].t] 2) #[.slice (some ⟨wr.heap.size + 1, 0, none⟩) 3 3] 55).cell i).trans (by have h1 := hyv.out; unfold hdC at hu; rw [h1] at hu; simpa using hu)) (by unfold maxLen; omega) (by omega) (by omega) ?_; intro g5 cap5 w5 hown5 hgrow5 hat5 hlt5 hkeep5; have hbk5 : Bk w5 (wo.heap.size + 1) 82 #[vr] := (hgrow5.block _ (by simp only [World.size_alloc]; omega) (fun e => by have h2 := HI.out _ e.symm; omega)).trans (((hbk3.out.alloc _).alloc _).alloc _); obtain ⟨e5, f5⟩ := bk1 hbk5; have hz5 := hgrow5.size; simp only [World.size_alloc] at hz5; have hgl5 := hbk5.lt))
          go_roundw
          case rel =>
            have hwi : Below wr.heap.size wr ((wr.alloc (.cells #[.int .i64 S[k].l[j].x, .int .i64 S[k].l[j].y, .int .i64 S[k].l[j].t] 87)).alloc (.cells #[.int .i64 S[k].l[j].x, .int .i64 S[k].l[j].y, .int .i64 S[k].l[j].t] 2)) := (Below.alloc (Below.refl _ _) (Nat.le_refl _) _).alloc (by simp) _
            have hmr : Mine rowsK ((wr.alloc (.cells #[.int .i64 S[k].l[j].x, .int .i64 S[k].l[j].y, .int .i64 S[k].l[j].t] 87)).alloc (.cells #[.int .i64 S[k].l[j].x, .int .i64 S[k].l[j].y, .int .i64 S[k].l[j].t] 2)) ((wo.heap.size + 1) + 1) wr.heap.size r := hMr.out.next rowsK_ok hwi
            have hya : Mine rowK ((wr.alloc (.cells #[.int .i64 S[k].l[j].x, .int .i64 S[k].l[j].y, .int .i64 S[k].l[j].t] 87)).alloc (.cells #[.int .i64 S[k].l[j].x, .int .i64 S[k].l[j].y, .int .i64 S[k].l[j].t] 2)) wr.heap.size ((wr.alloc (.cells #[.int .i64 S[k].l[j].x, .int .i64 S[k].l[j].y, .int .i64 S[k].l[j].t] 87)).alloc (.cells #[.int .i64 S[k].l[j].x, .int .i64 S[k].l[j].y, .int .i64 S[k].l[j].t] 2)).heap.size y := by
              rw [HY.out]
              exact Mine.fresh (l := rowPt S[k].l[j]) iC_len (Bk.new1 wr _ _ _) (by show 3 ≤ maxLen; decide) (by omega) (by simp)
            have hrl2 : r.l.length = j := hrl.out
            have hvr2 : Value.slice r.A r.l.length r.c = vr := HRV.out
            have hpush := Mine.push rowK_ok (cap := cap5) (g := g5) (W4 := (((wr.alloc (.cells #[.int .i64 S[k].l[j].x, .int .i64 S[k].l[j].y, .int .i64 S[k].l[j].t] 87)).alloc (.cells #[.int .i64 S[k].l[j].x, .int .i64 S[k].l[j].y, .int .i64 S[k].l[j].t] 2)).alloc (.cells #[.slice (some ⟨wr.heap.size + 1, 0, none⟩) 3 3] 55))) (w5 := w5) (B := 0) hmr hya (by simp only [World.size_alloc]; omega) (by omega) (Below.alloc (Below.refl _ _) (Nat.le_refl _) _) (by rw [hvr2]; exact hgrow5) (by rw [hvr2]; exact hat5) hlt5 (by rw [hrl2]; exact hown5)
            have hfin := hpush.chg rowsK_ok (ChgF.setCell w5 (wo.heap.size + 1) 0 (.slice (some ⟨g5, 0, none⟩) (j + 1) cap5)) (fun b hb hm => by have := hpush.rng b hb; simp at hm; omega)
            refine ⟨j + 1, ⟨some ⟨g5, 0, none⟩, cap5, r.l ++ [y]⟩, by omega, by go_num, by simp [Hid, hrl2], ?_, bk1_put hbk5, ?_, ?_⟩
            · rw [HY.out]; exact rowsK_pl_push hjlt hrp.out
            · have hsz : (w5.setCell ⟨(wo.heap.size + 1), 0, none⟩ (.slice (some ⟨g5, 0, none⟩) (j + 1) cap5)).heap.size = w5.heap.size := by simp [World.setCell]
              rw [Hid, hsz]; exact hfin
            · have h1 := hB2.trans ((hwi.mono (show (wo.heap.size + 1) ≤ wr.heap.size by omega)).alloc (by simp only [World.size_alloc]; omega) (.cells #[.slice (some ⟨wr.heap.size + 1, 0, none⟩) 3 3] 55))
              rw [E3.out] at h1
              have h3 := h1.grown hgrow5 (by simp only [World.size_alloc]; omega) (fun b hb => by have h2 := HI.out b hb; omega)
              refine Below.setCell h3 ?_ _
              exact Nat.le_refl _
          case measure => (simp [intOf]; try omega)
        · have ej : j = S[k].l.length := by omega
          subst ej
          have hbkw : Bk wr (m + 1) 30 #[.slice (some ⟨m, 0, none⟩) 3 3, .slice st.A k st.c, .slice none 0 0] := hbk.next hB0
          have hMs : Mine stK wr (m + 1 + 1) wo.heap.size st := hM.out.next stK_ok hB0
          have hmr : Mine rowsK wr wo.heap.size wr.heap.size r := hMr.out.low (by omega) (Nat.le_refl _)
          have HRP : Hid (rowsK.pl r = (S[k].l).map rowPt) := by rw [Hid, hrp.out, List.take_length]
          obtain ⟨vs, hvs⟩ : ∃ vs, Value.slice st.A k st.c = vs := ⟨_, rfl⟩
          have hsv : st.val = vs := by rw [← hvs, ← hsl.out]; rfl
          have HO : Hid (Own hdC 82 1 wr 0 vs st.l) := by rw [← hsv]; exact hMs.own.1
          have HSV := Lib.hid hsv
          have hrv : Hid (r.val = .slice r.A S[k].l.length r.c) := by rw [Hid, ← hrl.out]; rfl
          have HI : Hid (∀ b, vs.ownBlock = some b → m + 1 + 1 ≤ b ∧ b < wo.heap.size) := fun b hb => hMs.rng b (Kd.fp_top (s := st) (by rw [HSV.out]; exact hb))
          have HMS := Lib.hid hMs
          have HMR := Lib.hid hmr
          rw [hvs] at hbkw
          have HBK := Lib.hid hbkw
          have w0 := hbkw.cell 0
          have w1' := hbkw.cell 1
          have w2' := hbkw.cell 2
          have hglw := hbkw.lt
          clear hvs hsv hMs hmr hbkw
          go_wp2_with ((at_builtin; refine list_push elem_rows (by rfl) (.tmp 47) (.tmp 49) 27 (by rfl) Try.underlying27 0 vs st.l r (by rfl) (HO.out.alloc _) k hsl.out wr.heap.size 1 (by rfl) (fun i u hu => ((Bk.new wr #[.slice r.A S[k].l.length r.c] 82).cell i).trans (by have h1 := hrv.out; unfold hdC at hu; rw [h1] at hu; simpa using hu)) (by unfold maxLen; omega) (by omega) (by omega) ?_; intro g5 cap5 w5 hown5 hgrow5 hat5 hlt5 hkeep5; have hbk5 : Bk w5 (m + 1) 30 #[.slice (some ⟨m, 0, none⟩) 3 3, vs, .slice none 0 0] := (hgrow5.block _ (by simp only [World.size_alloc]; omega) (fun e => by have h2 := HI.out _ e.symm; omega)).trans (HBK.out.alloc _); have e51 := hbk5.cell 1; have f51 := hbk5.frozen 1; have hz5 := hgrow5.size; simp only [World.size_alloc] at hz5; have hgl5 := hbk5.lt))
          go_roundw
          case rel =>
            have hsl2 : st.l.length = k := hsl.out
            have hvs2 : Value.slice st.A st.l.length st.c = vs := HSV.out
            have hpush := Mine.push rowsK_ok (cap := cap5) (g := g5) (W4 := wr.alloc (.cells #[.slice r.A S[k].l.length r.c] 82)) (w5 := w5) (B := 0) HMS.out HMR.out (by omega) (by omega) (Below.alloc (Below.refl _ _) (Nat.le_refl _) _) (by rw [hvs2]; exact hgrow5) (by rw [hvs2]; exact hat5) hlt5 (by rw [hsl2]; exact hown5)
            have hfin := hpush.chg stK_ok (ChgF.setCell w5 (m + 1) 1 (.slice (some ⟨g5, 0, none⟩) (k + 1) cap5)) (fun b hb hm => by have := hpush.rng b hb; simp at hm; omega)
            refine ⟨k + 1, ⟨some ⟨g5, 0, none⟩, cap5, st.l ++ [r]⟩, by omega, by go_num, by simp [Hid, hsl2], ?_, by have := hbk5.put 1 (.slice (some ⟨g5, 0, none⟩) (k + 1) cap5); simpa using this, ?_, ?_⟩
            · have hkp : k < (ptsOf S).length := by simp [ptsOf]; omega
              exact stK_pl_push hkp hpl.out (by rw [HRP.out]; simp [ptsOf])
            · have hsz : (w5.setCell ⟨m + 1, 1, none⟩ (.slice (some ⟨g5, 0, none⟩) (k + 1) cap5)).heap.size = w5.heap.size := by simp [World.setCell]
              rw [Hid, hsz]; exact hfin
            · have h1 := hW.trans ((hB0.mono (show m + 1 ≤ wo.heap.size by omega)).alloc (by omega) (.cells #[.slice r.A S[k].l.length r.c] 82))
              have h3 := h1.grown hgrow5 (by simp only [World.size_alloc]; omega) (fun b hb => by have h2 := HI.out b hb; omega)
              refine Below.setCell h3 ?_ _
              exact Nat.le_refl _
          case measure => (simp [intOf]; try omega)
    · obtain rfl : k = n := by omega
      have hrw : Bk wo (w.heap.size + 1) 30 #[.slice none 0 0, .slice none 0 0, .slice none 0 0] := hr3.below hW (by omega)
      have er0 := hrw.cell 0
      have er1 := hrw.cell 1
      have er2 := hrw.cell 2
      have fr0 := hrw.frozen 0
      have fr1 := hrw.frozen 1
      have fr2 := hrw.frozen 2
      have hgr2 := hrw.lt
      go_wp2_with fail
      have hk2 : st.l.length = k := hsl.out
      have HPL : Hid (stK.pl st = inkSt (ptsOf S)) := by rw [Hid, hpl.out, List.take_of_length_le (by simp [ptsOf, HLN.out])]
      have HCW := Lib.hid (hCB.out.below hW (by omega))
      have HM2 := Lib.hid hM.out
      have HW0 := Lib.hid hW0
      refine bodyPost_ret (by simp [results, Try.results14, go_sem, *]; try rfl) rfl ?_
      have hch : ∀ u0 u1 u2, ChgF [w.heap.size + 1] wo (((wo.setCell ⟨w.heap.size + 1, 0, none⟩ u0).setCell ⟨w.heap.size + 1, 1, none⟩ u1).setCell ⟨w.heap.size + 1, 2, none⟩ u2) := fun u0 u1 u2 => ((ChgF.setCell wo _ 0 _).trans (ChgF.setCell _ _ 1 _)).trans (ChgF.setCell _ _ 2 _)
      refine ⟨⟨⟨some ⟨m, 0, none⟩, 3, chs3⟩, st, ⟨none, 0, []⟩⟩, by rw [hk2]; rfl, ?_, file_fin (hch _ _ _) (by omega) (by omega) HCW.out HM2.out, HW0.out.trans ((hch _ _ _).below (fun b hb => by simp at hb; omega) (by omega))⟩
      show FlP.mk chs3 (stK.pl st) [] = _
      rw [HPL.out]
end Go.Proofs.Ytigingjpdlfanaa
namespace Go.Proofs.Ytigingjpdlfanaa
set_option linter.unusedSimpArgs false
set_option linter.unusedVariables false
set_option maxRecDepth 20000
open Go.RowKit
open Go.ChangeShapes Go.WideShapes Go.Deep Go.Joins

theorem sFileOfInk_bad (A : Option Addr) (n c : Nat) (S : List St) (w : World) (h : InkRd w A n S) (hs : ∀ s ∈ S, s.l.length ≤ 1048576) (hn : n ≤ 1048576) (hv : inkB (ptsOf S) = false) :
    Calls Try.prog 12 #[.agg #[.slice A n c]] w fun e w' => e = .returned (.tuple #[.agg #[.slice none 0 0, .slice none 0 0, .slice none 0 0], .int .i64 1]) ∧ Below w.heap.size w w' := by
  have HA := Lib.hid ((h.alloc (.cells #[.slice A n c] 35)).alloc (.cells #[.slice none 0 0, .slice none 0 0, .slice none 0 0] 30))
  have HV := Lib.hid hv
  clear h hv
  have hr0 := Bk.new1 w (.cells #[.slice A n c] 35) #[.slice none 0 0, .slice none 0 0, .slice none 0 0] 30
  go_enter Try.func12, Try.ntmps12
  go_wp2_with fail
  have hc := l02Ok_any w.heap.size 0 A n c S _ (by go_simp) HA.out hs hn
  rw [show inkB (ptsOf S) = false from HV.out] at hc
  refine hc.mono ?_
  rintro e w2 ⟨rfl, hb2⟩
  have hr2 := hr0.next hb2
  have hgr := hr2.lt
  have e0 := hr2.cell 0
  have e1 := hr2.cell 1
  have e2 := hr2.cell 2
  have f0 := hr2.frozen 0
  have f1 := hr2.frozen 1
  have f2 := hr2.frozen 2
  have hB : Below w.heap.size w w2 := Below.next (by go_grown) hb2
  clear hb2 hc
  go_wp2_with fail
  refine bodyPost_ret (by simp [results, Try.results12, go_sem, *]; try rfl) rfl ?_
  exact ⟨rfl, by go_grown⟩
end Go.Proofs.Ytigingjpdlfanaa
namespace Go.Proofs.Ytigingjpdlfanaa
set_option linter.unusedSimpArgs false
set_option linter.unusedVariables false
set_option maxRecDepth 20000
open Go.RowKit
open Go.ChangeShapes Go.WideShapes Go.Deep Go.Joins

set_option maxHeartbeats 4000000 in
theorem sFileOfInk_ok (A : Option Addr) (n c : Nat) (S : List St) (w : World) (h : InkRd w A n S) (hs : ∀ s ∈ S, s.l.length ≤ 1048576) (hn : n ≤ 1048576) (hv : inkB (ptsOf S) = true) :
    Calls Try.prog 12 #[.agg #[.slice A n c]] w fun e w' => ∃ f : Fl, e = .returned (.tuple #[.agg #[.slice f.ch.A f.ch.l.length f.ch.c, .slice f.st.A f.st.l.length f.st.c, .slice f.no.A f.no.l.length f.no.c], .int .i64 0]) ∧ filePl f = ⟨chs3, inkSt (ptsOf S), []⟩ ∧ FileMine w' w.heap.size w'.heap.size f ∧ Below w.heap.size w w' := by
  have HA := Lib.hid ((h.alloc (.cells #[.slice A n c] 35)).alloc (.cells #[.slice none 0 0, .slice none 0 0, .slice none 0 0] 30))
  have HV := Lib.hid hv
  have H0 := Lib.hid h
  have HLN := Lib.hid h.len
  clear h hv
  have hr0 := Bk.new1 w (.cells #[.slice A n c] 35) #[.slice none 0 0, .slice none 0 0, .slice none 0 0] 30
  go_enter Try.func12, Try.ntmps12
  go_wp2_with fail
  have hc := l02Ok_any w.heap.size 0 A n c S _ (by go_simp) HA.out hs hn
  rw [show inkB (ptsOf S) = true from HV.out] at hc
  refine hc.mono ?_
  rintro e w2 ⟨rfl, hb2⟩
  have hr2 := hr0.next hb2
  have hI2 : Bk w2 w.heap.size 35 #[.slice A n c] := ((Bk.new w #[.slice A n c] 35).alloc _).next hb2
  obtain ⟨eI, fI⟩ := bk1 hI2
  have hgI := hI2.lt
  have hgr := hr2.lt
  have e0 := hr2.cell 0
  have e1 := hr2.cell 1
  have e2 := hr2.cell 2
  have f0 := hr2.frozen 0
  have f1 := hr2.frozen 1
  have f2 := hr2.frozen 2
  have hB : Below w.heap.size w w2 := Below.next (by go_grown) hb2
  clear hb2 hc
  go_wp2_with fail
  have hCB : Hid (Bk ((w2.alloc (.cells (rowOf chC chs3).toArray 79)).alloc (.cells #[.slice (some ⟨w2.heap.size, 0, none⟩) 3 3, .slice none 0 0, .slice none 0 0] 30)) w2.heap.size 79 (rowOf chC chs3).toArray) := (Bk.new w2 _ _).alloc _
  have hFB : Bk ((w2.alloc (.cells (rowOf chC chs3).toArray 79)).alloc (.cells #[.slice (some ⟨w2.heap.size, 0, none⟩) 3 3, .slice none 0 0, .slice none 0 0] 30)) (w2.heap.size + 1) 30 #[.slice (some ⟨w2.heap.size, 0, none⟩) 3 3, .slice none 0 0, .slice none 0 0] := Bk.new1 w2 _ _ _
  have hB23 : Hid (Below w2.heap.size w2 ((w2.alloc (.cells (rowOf chC chs3).toArray 79)).alloc (.cells #[.slice (some ⟨w2.heap.size, 0, none⟩) 3 3, .slice none 0 0, .slice none 0 0] 30))) := (Below.alloc (Below.refl _ _) (Nat.le_refl _) _).alloc (by simp) _
  have hz3 : ((w2.alloc (.cells (rowOf chC chs3).toArray 79)).alloc (.cells #[.slice (some ⟨w2.heap.size, 0, none⟩) 3 3, .slice none 0 0, .slice none 0 0] 30)).heap.size = w2.heap.size + 1 + 1 := by simp
  change Code.wp _ _ _ _ ((w2.alloc (.cells (rowOf chC chs3).toArray 79)).alloc (.cells #[.slice (some ⟨w2.heap.size, 0, none⟩) 3 3, .slice none 0 0, .slice none 0 0] 30))
  generalize ((w2.alloc (.cells (rowOf chC chs3).toArray 79)).alloc (.cells #[.slice (some ⟨w2.heap.size, 0, none⟩) 3 3, .slice none 0 0, .slice none 0 0] 30)) = W3 at hCB hFB hB23 hz3 ⊢
  have HB3 : Hid (Below w.heap.size w W3) := Below.trans hB (hB23.out.mono (by omega))
  have hr3 := hr2.below hB23.out (by omega)
  have HA3 : Hid (InkRd W3 A n S) := H0.out.below HB3.out
  have hI3 : Hid (Bk W3 w.heap.size 35 #[.slice A n c]) := hI2.below hB23.out (by omega)
  obtain ⟨m, hm⟩ : ∃ m, w2.heap.size = m := ⟨_, rfl⟩
  rw [hm] at hCB hFB hB23 hz3 hgI hgr
  rw [hm]
  have hmw : w.heap.size + 1 < m := hgr
  clear HA e0 e1 e2 f0 f1 f2 eI fI hr2 hI2 hr0 hB
  go_loopw [5] (fun i wo => ∃ (k : Nat) (st : Sl (Sl (Sl Int))), k ≤ n ∧ i = .int .i64 (k : Int) ∧ Hid (st.l.length = k) ∧ Hid (stK.pl st = inkSt ((ptsOf S).take k)) ∧ Bk wo (m + 1) 30 #[.slice (some ⟨m, 0, none⟩) 3 3, .slice st.A k st.c, .slice none 0 0] ∧ Hid (Mine stK wo (m + 1 + 1) wo.heap.size st) ∧ Below (m + 1) W3 wo) (fun i _ => n - (intOf i).toNat)
  case atStart => exact ⟨0, ⟨none, 0, []⟩, Nat.zero_le _, rfl, rfl, rfl, hFB, Mine.nil _ _ _ _ _, Below.refl _ _⟩
  case round =>
    obtain ⟨wo, rfl⟩ : ∃ wo, wo = wr := ⟨wr, rfl⟩
    obtain ⟨k, st, hk, rfl, hsl, hpl, hbk, hM, hW⟩ := hrel
    have hWs := hW.size
    have hW0 : Below w.heap.size w wo := HB3.out.trans (hW.mono (by omega))
    have eo0 := hbk.cell 0
    have eo1 := hbk.cell 1
    have eo2 := hbk.cell 2
    have fo0 := hbk.frozen 0
    have fo1 := hbk.frozen 1
    have fo2 := hbk.frozen 2
    have hgl := hbk.lt
    have hIo : Bk wo w.heap.size 35 #[.slice A n c] := hI3.out.below hW (by omega)
    have HIO := Lib.hid hIo
    obtain ⟨eI, fI⟩ := bk1 hIo
    have hgi := hIo.lt
    clear hIo
    by_cases hlt : k < n
    · have ka : k < S.length := by have := HLN.out; omega
      obtain ⟨b1, o1, rfl, l1, c1, p1⟩ := (H0.out.below hW0).at ka
      have hsl3 := hs _ (List.getElem_mem ka)
      have P1 := Lib.hid p1
      have hI0 : Hid (Bk (wo.alloc (.cells #[.slice none 0 0] 82)) wo.heap.size 82 #[.slice none 0 0]) := Bk.new wo _ _
      clear p1
      go_wp2_with fail
      go_loopw [7] (fun i wr => ∃ (j : Nat) (r : Sl (Sl Int)), j ≤ S[k].l.length ∧ i = .int .i64 (j : Int) ∧ Hid (r.l.length = j) ∧ Hid (rowsK.pl r = (S[k].l.take j).map rowPt) ∧ Bk wr wo.heap.size 82 #[.slice r.A j r.c] ∧ Hid (Mine rowsK wr (wo.heap.size + 1) wr.heap.size r) ∧ Below wo.heap.size (wo.alloc (.cells #[.slice none 0 0] 82)) wr) (fun i _ => S[k].l.length - (intOf i).toNat)
      case atStart => exact ⟨0, ⟨none, 0, []⟩, Nat.zero_le _, rfl, rfl, rfl, hI0.out, Mine.nil _ _ _ _ _, Below.refl _ _⟩
      case round =>
        obtain ⟨j, r, hj, rfl, hrl, hrp, hbk2, hMr, hB2⟩ := hrel
        have hgl2 := hbk2.lt
        have hBs := hB2.size
        simp only [World.size_alloc] at hBs
        obtain ⟨e0, f0⟩ := bk1 hbk2
        have hB0 : Below wo.heap.size wo wr := (Below.alloc (Below.refl _ _) (Nat.le_refl _) (.cells #[.slice none 0 0] 82)).trans hB2
        have hIr := HIO.out.next hB0
        obtain ⟨eIr, fIr⟩ := bk1 hIr
        have hgir := hIr.lt
        have c1r : wr.cell? ⟨b1, o1 + k, none⟩ = some (.slice S[k].A S[k].l.length S[k].c) := (hB0.cell (p := ⟨b1, _, none⟩) l1).trans c1
        have l1r : b1 < wr.heap.size := by omega
        clear hIr
        by_cases hjlt : j < S[k].l.length
        · have HP : Hid (Rd wr S[k].A S[k].l.length 3 (rowOf ptC S[k].l)) := P1.out.below hB0
          obtain ⟨b3, o3, e3, l3, a1, a2, a3⟩ := HP.out.pt rfl hjlt
          have E3 := Lib.hid e3
          have hj0 : (0 : Int) ≤ (j : Int) := by omega
          have hjn : (j : Int) < (S[k].l.length : Int) := by omega
          have hb3 : ¬ wr.heap.size = wo.heap.size := by omega
          obtain ⟨vr, hvr⟩ : ∃ vr, Value.slice r.A j r.c = vr := ⟨_, rfl⟩
          have hrv : r.val = vr := by rw [← hvr, ← hrl.out]; rfl
          have HO : Hid (Own hdC 55 1 wr 0 vr r.l) := by rw [← hrv]; exact hMr.out.own.1
          have HVR := Lib.hid hvr
          have HRV := Lib.hid hrv
          rw [hvr] at hbk2 e0
          obtain ⟨y, hy⟩ : ∃ y : Sl Int, y = ⟨some ⟨wr.heap.size + 1, 0, none⟩, 3, rowPt S[k].l[j]⟩ := ⟨_, rfl⟩
          have HY := Lib.hid hy
          have hyv : Hid (y.val = .slice (some ⟨wr.heap.size + 1, 0, none⟩) 3 3) := by rw [Hid, hy]; rfl
          rw [e3] at c1r
          clear e3 hvr hrv hy
          have hbk3 := Lib.hid hbk2
          have HI : Hid (∀ b, vr.ownBlock = some b → wo.heap.size + 1 ≤ b ∧ b < wr.heap.size) := fun b hb => hMr.out.rng b (Kd.fp_top (s := r) (by rw [HRV.out]; exact hb))
          go_wp2_with ((at_builtin; refine list_push elem_row (by rfl) (.tmp 46) (.tmp 54) 80 (by rfl) Try.underlying80 0 vr r.l y (by rfl) (((HO.out.alloc _).alloc _).alloc _) j hrl.out (wr.heap.size + 1 + 1) 1 (by rfl) (fun i u hu => ((Bk.new2 wr (.cells #[.int .i64 S[k].l[j].x, .int .i64 S[k].l[j].y, .int .i64 S[k].l[j].t] 87) (.cells #[.int .i64 S[k].l[j].x, .int .i64 S[k].l[j].y, .int .i64 S[k].l[j].t] 2) #[.slice (some ⟨wr.heap.size + 1, 0, none⟩) 3 3] 55).cell i).trans (by have h1 := hyv.out; unfold hdC at hu; rw [h1] at hu; simpa using hu)) (by unfold maxLen; omega) (by omega) (by omega) ?_; intro g5 cap5 w5 hown5 hgrow5 hat5 hlt5 hkeep5; have hbk5 : Bk w5 wo.heap.size 82 #[vr] := (hgrow5.block _ (by simp only [World.size_alloc]; omega) (fun e => by have h2 := HI.out _ e.symm; omega)).trans (((hbk3.out.alloc _).alloc _).alloc _); obtain ⟨e5, f5⟩ := bk1 hbk5; have hz5 := hgrow5.size; simp only [World.size_alloc] at hz5; have hgl5 := hbk5.lt))
          go_roundw
          case rel =>
            have hwi : Below wr.heap.size wr ((wr.alloc (.cells #[.int .i64 S[k].l[j].x, .int .i64 S[k].l[j].y, .int .i64 S[k].l[j].t] 87)).alloc (.cells #[.int .i64 S[k].l[j].x, .int .i64 S[k].l[j].y, .int .i64 S[k].l[j].t] 2)) := (Below.alloc (Below.refl _ _) (Nat.le_refl _) _).alloc (by simp) _
            have hmr : Mine rowsK ((wr.alloc (.cells #[.int .i64 S[k].l[j].x, .int .i64 S[k].l[j].y, .int .i64 S[k].l[j].t] 87)).alloc (.cells #[.int .i64 S[k].l[j].x, .int .i64 S[k].l[j].y, .int .i64 S[k].l[j].t] 2)) (wo.heap.size + 1) wr.heap.size r := hMr.out.next rowsK_ok hwi
            have hya : Mine rowK ((wr.alloc (.cells #[.int .i64 S[k].l[j].x, .int .i64 S[k].l[j].y, .int .i64 S[k].l[j].t] 87)).alloc (.cells #[.int .i64 S[k].l[j].x, .int .i64 S[k].l[j].y, .int .i64 S[k].l[j].t] 2)) wr.heap.size ((wr.alloc (.cells #[.int .i64 S[k].l[j].x, .int .i64 S[k].l[j].y, .int .i64 S[k].l[j].t] 87)).alloc (.cells #[.int .i64 S[k].l[j].x, .int .i64 S[k].l[j].y, .int .i64 S[k].l[j].t] 2)).heap.size y := by
              rw [HY.out]
              exact Mine.fresh (l := rowPt S[k].l[j]) iC_len (Bk.new1 wr _ _ _) (by show 3 ≤ maxLen; decide) (by omega) (by simp)
            have hrl2 : r.l.length = j := hrl.out
            have hvr2 : Value.slice r.A r.l.length r.c = vr := HRV.out
            have hpush := Mine.push rowK_ok (cap := cap5) (g := g5) (W4 := (((wr.alloc (.cells #[.int .i64 S[k].l[j].x, .int .i64 S[k].l[j].y, .int .i64 S[k].l[j].t] 87)).alloc (.cells #[.int .i64 S[k].l[j].x, .int .i64 S[k].l[j].y, .int .i64 S[k].l[j].t] 2)).alloc (.cells #[.slice (some ⟨wr.heap.size + 1, 0, none⟩) 3 3] 55))) (w5 := w5) (B := 0) hmr hya (by simp only [World.size_alloc]; omega) (by omega) (Below.alloc (Below.refl _ _) (Nat.le_refl _) _) (by rw [hvr2]; exact hgrow5) (by rw [hvr2]; exact hat5) hlt5 (by rw [hrl2]; exact hown5)
            have hfin := hpush.chg rowsK_ok (ChgF.setCell w5 wo.heap.size 0 (.slice (some ⟨g5, 0, none⟩) (j + 1) cap5)) (fun b hb hm => by have := hpush.rng b hb; simp at hm; omega)
            refine ⟨j + 1, ⟨some ⟨g5, 0, none⟩, cap5, r.l ++ [y]⟩, by omega, by go_num, by simp [Hid, hrl2], ?_, bk1_put hbk5, ?_, ?_⟩
            · rw [HY.out]; exact rowsK_pl_push hjlt hrp.out
            · have hsz : (w5.setCell ⟨wo.heap.size, 0, none⟩ (.slice (some ⟨g5, 0, none⟩) (j + 1) cap5)).heap.size = w5.heap.size := by simp [World.setCell]
              rw [Hid, hsz]; exact hfin
            · have h1 := hB2.trans ((hwi.mono (show wo.heap.size ≤ wr.heap.size by omega)).alloc (by simp only [World.size_alloc]; omega) (.cells #[.slice (some ⟨wr.heap.size + 1, 0, none⟩) 3 3] 55))
              have h3 := h1.grown hgrow5 (by simp only [World.size_alloc]; omega) (fun b hb => by have h2 := HI.out b hb; omega)
              refine Below.setCell h3 ?_ _
              exact Nat.le_refl _
          case measure => (simp [intOf]; try omega)
        · have ej : j = S[k].l.length := by omega
          subst ej
          have hbkw : Bk wr (m + 1) 30 #[.slice (some ⟨m, 0, none⟩) 3 3, .slice st.A k st.c, .slice none 0 0] := hbk.next hB0
          have hMs : Mine stK wr (m + 1 + 1) wo.heap.size st := hM.out.next stK_ok hB0
          have hmr : Mine rowsK wr wo.heap.size wr.heap.size r := hMr.out.low (by omega) (Nat.le_refl _)
          have HRP : Hid (rowsK.pl r = (S[k].l).map rowPt) := by rw [Hid, hrp.out, List.take_length]
          obtain ⟨vs, hvs⟩ : ∃ vs, Value.slice st.A k st.c = vs := ⟨_, rfl⟩
          have hsv : st.val = vs := by rw [← hvs, ← hsl.out]; rfl
          have HO : Hid (Own hdC 82 1 wr 0 vs st.l) := by rw [← hsv]; exact hMs.own.1
          have HSV := Lib.hid hsv
          have hrv : Hid (r.val = .slice r.A S[k].l.length r.c) := by rw [Hid, ← hrl.out]; rfl
          have HI : Hid (∀ b, vs.ownBlock = some b → m + 1 + 1 ≤ b ∧ b < wo.heap.size) := fun b hb => hMs.rng b (Kd.fp_top (s := st) (by rw [HSV.out]; exact hb))
          have HMS := Lib.hid hMs
          have HMR := Lib.hid hmr
          rw [hvs] at hbkw
          have HBK := Lib.hid hbkw
          have w0 := hbkw.cell 0
          have w1' := hbkw.cell 1
          have w2' := hbkw.cell 2
          have hglw := hbkw.lt
          clear hvs hsv hMs hmr hbkw
          go_wp2_with ((at_builtin; refine list_push elem_rows (by rfl) (.tmp 58) (.tmp 60) 27 (by rfl) Try.underlying27 0 vs st.l r (by rfl) (HO.out.alloc _) k hsl.out wr.heap.size 1 (by rfl) (fun i u hu => ((Bk.new wr #[.slice r.A S[k].l.length r.c] 82).cell i).trans (by have h1 := hrv.out; unfold hdC at hu; rw [h1] at hu; simpa using hu)) (by unfold maxLen; omega) (by omega) (by omega) ?_; intro g5 cap5 w5 hown5 hgrow5 hat5 hlt5 hkeep5; have hbk5 : Bk w5 (m + 1) 30 #[.slice (some ⟨m, 0, none⟩) 3 3, vs, .slice none 0 0] := (hgrow5.block _ (by simp only [World.size_alloc]; omega) (fun e => by have h2 := HI.out _ e.symm; omega)).trans (HBK.out.alloc _); have e51 := hbk5.cell 1; have f51 := hbk5.frozen 1; have hz5 := hgrow5.size; simp only [World.size_alloc] at hz5; have hgl5 := hbk5.lt))
          go_roundw
          case rel =>
            have hsl2 : st.l.length = k := hsl.out
            have hvs2 : Value.slice st.A st.l.length st.c = vs := HSV.out
            have hpush := Mine.push rowsK_ok (cap := cap5) (g := g5) (W4 := wr.alloc (.cells #[.slice r.A S[k].l.length r.c] 82)) (w5 := w5) (B := 0) HMS.out HMR.out (by omega) (by omega) (Below.alloc (Below.refl _ _) (Nat.le_refl _) _) (by rw [hvs2]; exact hgrow5) (by rw [hvs2]; exact hat5) hlt5 (by rw [hsl2]; exact hown5)
            have hfin := hpush.chg stK_ok (ChgF.setCell w5 (m + 1) 1 (.slice (some ⟨g5, 0, none⟩) (k + 1) cap5)) (fun b hb hm => by have := hpush.rng b hb; simp at hm; omega)
            refine ⟨k + 1, ⟨some ⟨g5, 0, none⟩, cap5, st.l ++ [r]⟩, by omega, by go_num, by simp [Hid, hsl2], ?_, by have := hbk5.put 1 (.slice (some ⟨g5, 0, none⟩) (k + 1) cap5); simpa using this, ?_, ?_⟩
            · have hkp : k < (ptsOf S).length := by simp [ptsOf]; omega
              exact stK_pl_push hkp hpl.out (by rw [HRP.out]; simp [ptsOf])
            · have hsz : (w5.setCell ⟨m + 1, 1, none⟩ (.slice (some ⟨g5, 0, none⟩) (k + 1) cap5)).heap.size = w5.heap.size := by simp [World.setCell]
              rw [Hid, hsz]; exact hfin
            · have h1 := hW.trans ((hB0.mono (show m + 1 ≤ wo.heap.size by omega)).alloc (by omega) (.cells #[.slice r.A S[k].l.length r.c] 82))
              have h3 := h1.grown hgrow5 (by simp only [World.size_alloc]; omega) (fun b hb => by have h2 := HI.out b hb; omega)
              refine Below.setCell h3 ?_ _
              exact Nat.le_refl _
          case measure => (simp [intOf]; try omega)
    · obtain rfl : k = n := by omega
      have hrw : Bk wo (w.heap.size + 1) 30 #[.slice none 0 0, .slice none 0 0, .slice none 0 0] := hr3.below hW (by omega)
      have er0 := hrw.cell 0
      have er1 := hrw.cell 1
      have er2 := hrw.cell 2
      have fr0 := hrw.frozen 0
      have fr1 := hrw.frozen 1
      have fr2 := hrw.frozen 2
      have hgr2 := hrw.lt
      go_wp2_with fail
      have hk2 : st.l.length = k := hsl.out
      have HPL : Hid (stK.pl st = inkSt (ptsOf S)) := by rw [Hid, hpl.out, List.take_of_length_le (by simp [ptsOf, HLN.out])]
      have HCW := Lib.hid (hCB.out.below hW (by omega))
      have HM2 := Lib.hid hM.out
      have HW0 := Lib.hid hW0
      refine bodyPost_ret (by simp [results, Try.results12, go_sem, *]; try rfl) rfl ?_
      have hch : ∀ u0 u1 u2, ChgF [w.heap.size + 1] wo (((wo.setCell ⟨w.heap.size + 1, 0, none⟩ u0).setCell ⟨w.heap.size + 1, 1, none⟩ u1).setCell ⟨w.heap.size + 1, 2, none⟩ u2) := fun u0 u1 u2 => ((ChgF.setCell wo _ 0 _).trans (ChgF.setCell _ _ 1 _)).trans (ChgF.setCell _ _ 2 _)
      refine ⟨⟨⟨some ⟨m, 0, none⟩, 3, chs3⟩, st, ⟨none, 0, []⟩⟩, by rw [hk2]; rfl, ?_, file_fin (hch _ _ _) (by omega) (by omega) HCW.out HM2.out, HW0.out.trans ((hch _ _ _).below (fun b hb => by simp at hb; omega) (by omega))⟩
      show FlP.mk chs3 (stK.pl st) [] = _
      rw [HPL.out]
end Go.Proofs.Ytigingjpdlfanaa
namespace Go.Proofs.Ytigingjpdlfanaa
set_option linter.unusedSimpArgs false
set_option linter.unusedVariables false
set_option maxRecDepth 20000
open Go.RowKit
open Go.ChangeShapes Go.WideShapes Go.Deep Go.Joins

theorem FileMine.keepChg {w w' : World} {lo hi lo' hi' : Nat} {f : Fl} (h : FileMine w lo hi f) (hc : Chg lo' hi' w w') (hd : hi ≤ lo' ∨ hi' ≤ lo) : FileMine w' lo hi f := by
  have hk : ∀ b ∈ fileFp f, b < w.heap.size → w'.heap[b]? = w.heap[b]? := fun b hb hl => hc.block b hl (by have := h.rng b hb; omega)
  exact ⟨⟨chsK_ok.keep h.ch.own fun b hb => hk b (mem_fp1 hb) (chsK_ok.lt h.ch.own b hb), h.ch.apart, h.ch.rng⟩, ⟨stK_ok.keep h.st.own fun b hb => hk b (mem_fp2 hb) (stK_ok.lt h.st.own b hb), h.st.apart, h.st.rng⟩, ⟨nosK_ok.keep h.no.own fun b hb => hk b (mem_fp3 hb) (nosK_ok.lt h.no.own b hb), h.no.apart, h.no.rng⟩, h.d1, h.d2, h.d3⟩
end Go.Proofs.Ytigingjpdlfanaa
namespace Go.Proofs.Ytigingjpdlfanaa
set_option linter.unusedSimpArgs false
set_option linter.unusedVariables false
set_option maxRecDepth 20000
open Go.RowKit
open Go.ChangeShapes Go.WideShapes Go.Deep Go.Joins

def noFile : FlP := ⟨[], [], []⟩
def foiR (P : List (List Pt)) : FlP × Int := if inkB P = true then (⟨chs3, inkSt P, []⟩, 0) else (noFile, 1)
theorem cntI_pts (l : List Pt) : cntI (l.map rowPt) = 3 * l.length := by
  induction l with
  | nil => rfl
  | cons p l ih =>
    show 3 + cntI (l.map rowPt) = _
    rw [ih, List.length_cons]; omega
theorem cntJ_ink : ∀ (P : List (List Pt)) (k : Nat), P.length ≤ k → (∀ l ∈ P, l.length ≤ 60) → cntJ (inkSt P) ≤ 180 * k
  | [], k, _, _ => by show 0 ≤ _; omega
  | l :: P, 0, h, _ => by simp at h
  | l :: P, k + 1, h, hl => by
    have h1 := cntJ_ink P k (by simpa using h) fun x hx => hl x (List.mem_cons_of_mem _ hx)
    have h2 := hl l (List.mem_cons_self ..)
    show cntI (l.map rowPt) + cntJ (inkSt P) ≤ _
    rw [cntI_pts]; omega
theorem foi_sz (P : List (List Pt)) : PlSz (foiR P).1 := by
  unfold foiR
  split
  · rename_i h
    obtain ⟨h1, h2⟩ := smallP_of h
    have h3 := cntJ_ink P 16 h1 h2
    refine ⟨by show 3 ≤ _; omega, by show (inkSt P).length ≤ _; simp [inkSt]; omega, fun s hs => ?_, by show cntJ (inkSt P) ≤ _; omega, by show 0 ≤ _; omega⟩
    obtain ⟨l, hl, rfl⟩ := List.mem_map.1 hs
    have h4 := h2 l hl
    refine ⟨by rw [List.length_map]; omega, fun r hr => ?_, by rw [cntI_pts]; omega⟩
    obtain ⟨p, _, rfl⟩ := List.mem_map.1 hr
    show 3 ≤ _
    omega
  · exact ⟨by show 0 ≤ _; omega, by show 0 ≤ _; omega, fun s hs => by simp [noFile] at hs, by show 0 ≤ _; omega, by show 0 ≤ _; omega⟩
theorem noFile_mine (w : World) (lo hi : Nat) : FileMine w lo hi ⟨⟨none, 0, []⟩, ⟨none, 0, []⟩, ⟨none, 0, []⟩⟩ :=
  ⟨Mine.nil _ _ _ _ _, Mine.nil _ _ _ _ _, Mine.nil _ _ _ _ _, fun b hb => by simp [chsK, Kd.sl, Sl.val, Value.ownBlock] at hb, fun b hb => by simp [chsK, Kd.sl, Sl.val, Value.ownBlock] at hb, fun b hb => by simp [stK, Kd.sl, Sl.val, Value.ownBlock] at hb⟩
def FoiPost (w : World) (p : FlP) (code : Int) (e : Ending) (w' : World) : Prop :=
  ∃ f : Fl, e = .returned (.tuple #[.agg #[.slice f.ch.A f.ch.l.length f.ch.c, .slice f.st.A f.st.l.length f.st.c, .slice f.no.A f.no.l.length f.no.c], .int .i64 code]) ∧ filePl f = p ∧ FileMine w' w.heap.size w'.heap.size f ∧ Below w.heap.size w w'
theorem iFoi (A : Option Addr) (n c : Nat) (S : List St) (P : List (List Pt)) (p : FlP) (code : Int) (w : World) (h : InkRd w A n S) (hP : ptsOf S = P) (hs : ∀ s ∈ S, s.l.length ≤ 1048576) (hn : n ≤ 1048576) (hR : foiR P = (p, code)) :
    Calls Try.prog 14 #[.agg #[.slice A n c]] w (FoiPost w p code) := by
  subst hP
  cases hv : inkB (ptsOf S)
  · refine (iFileOfInk_bad A n c S w h hs hn hv).mono ?_
    rintro e w' ⟨rfl, hb⟩
    rw [foiR, hv, if_neg (by simp)] at hR
    injection hR with e1 e2
    subst e1; subst e2
    exact ⟨⟨⟨none, 0, []⟩, ⟨none, 0, []⟩, ⟨none, 0, []⟩⟩, rfl, rfl, noFile_mine _ _ _, hb⟩
  · rw [foiR, hv, if_pos rfl] at hR
    injection hR with e1 e2
    subst e1; subst e2
    exact iFileOfInk_ok A n c S w h hs hn hv
theorem sFoi (A : Option Addr) (n c : Nat) (S : List St) (P : List (List Pt)) (p : FlP) (code : Int) (w : World) (h : InkRd w A n S) (hP : ptsOf S = P) (hs : ∀ s ∈ S, s.l.length ≤ 1048576) (hn : n ≤ 1048576) (hR : foiR P = (p, code)) :
    Calls Try.prog 12 #[.agg #[.slice A n c]] w (FoiPost w p code) := by
  subst hP
  cases hv : inkB (ptsOf S)
  · refine (sFileOfInk_bad A n c S w h hs hn hv).mono ?_
    rintro e w' ⟨rfl, hb⟩
    rw [foiR, hv, if_neg (by simp)] at hR
    injection hR with e1 e2
    subst e1; subst e2
    exact ⟨⟨⟨none, 0, []⟩, ⟨none, 0, []⟩, ⟨none, 0, []⟩⟩, rfl, rfl, noFile_mine _ _ _, hb⟩
  · rw [foiR, hv, if_pos rfl] at hR
    injection hR with e1 e2
    subst e1; subst e2
    exact sFileOfInk_ok A n c S w h hs hn hv
end Go.Proofs.Ytigingjpdlfanaa
namespace Go.Proofs.Ytigingjpdlfanaa
set_option linter.unusedSimpArgs false
set_option linter.unusedVariables false
set_option maxRecDepth 20000
open Go.RowKit
open Go.ChangeShapes Go.WideShapes Go.Deep Go.Joins

theorem ChgF.toChg {fp : List Nat} {lo hi : Nat} {w w' : World} (h : ChgF fp w w') (hr : ∀ b ∈ fp, lo ≤ b ∧ b < hi) : Chg lo hi w w' :=
  ⟨h.os, h.tape, h.output, h.size, fun k hk hn => h.block k hk fun hb => by have := hr k hb; omega⟩
theorem PlSz.cnt {p : FlP} (h : PlSz p) : cntPl p ≤ 33554432 := by
  have h1 := h.ch
  have h2 := h.sum
  have h3 := h.no
  unfold cntPl; omega
theorem markFile_L (f : Fl) (lo hi : Nat) (p : FlP) (mm : Nat) (w : World) (h : FileMine w lo hi f) (hh : hi ≤ w.heap.size) (hp : filePl f = p) (hs : PlSz p) (hm : 1 + cntPl p = mm) :
    Calls Try.prog 18 #[.agg #[.slice f.ch.A f.ch.l.length f.ch.c, .slice f.st.A f.st.l.length f.st.c, .slice f.no.A f.no.l.length f.no.c], .int .i64 1] w fun e w' => e = .returned (.int .i64 (mm : Int)) ∧ FileMine w' lo hi (mkFile 1 f) ∧ Chg lo hi w w' := by
  have h1 := markFile_any f lo hi 1 w h hh (FileSz.of_pl hp hs) (by omega) (by omega)
  rw [cnt_of_pl hp, hm] at h1
  exact h1.mono fun e w' ⟨he, h2, h3⟩ => ⟨he, h2, h3.toChg h.rng⟩
theorem heldFile_L (f : Fl) (p : FlP) (mm : Nat) (w : World) (h : FileRd w (mkFile 1 f)) (hp : filePl f = p) (hs : PlSz p) (hm : 1 + cntPl p = mm) :
    Calls Try.prog 19 #[.agg #[.slice f.ch.A f.ch.l.length f.ch.c, .slice f.st.A f.st.l.length f.st.c, .slice f.no.A f.no.l.length f.no.c], .int .i64 1] w fun e w' => e = .returned (.int .i64 (mm : Int)) ∧ Below w.heap.size w w' := by
  have h1 := heldFile_any f 1 w h (FileSz.of_pl hp hs) (by omega) (by omega)
  rw [cnt_of_pl hp, hm] at h1
  exact h1
theorem eqFile_L (f g : Fl) (p : FlP) (w : World) (hf : FileRd w f) (hg : FileRd w g) (hp : filePl f = p) (hq : filePl g = p) (hs : PlSz p) :
    Calls Try.prog 15 #[.agg #[.slice f.ch.A f.ch.l.length f.ch.c, .slice f.st.A f.st.l.length f.st.c, .slice f.no.A f.no.l.length f.no.c], .agg #[.slice g.ch.A g.ch.l.length g.ch.c, .slice g.st.A g.st.l.length g.st.c, .slice g.no.A g.no.l.length g.no.c]] w fun e w' => e = .returned (.bool true) ∧ Below w.heap.size w w' :=
  eqFile_same f g w hf hg (hp.trans hq.symm) (FileSz.of_pl hp hs)
theorem FileRd.alloc {w : World} {f : Fl} (h : FileRd w f) (b : Obj) : FileRd (w.alloc b) f := h.below (Below.alloc (Below.refl _ _) (Nat.le_refl _) b)
theorem FileRd.drew {w : World} {f : Fl} (h : FileRd w f) : FileRd w.drew f := h.below (Below.drew (Below.refl _ _))
theorem FileMine.alloc {w : World} {lo hi : Nat} {f : Fl} (h : FileMine w lo hi f) (b : Obj) : FileMine (w.alloc b) lo hi f := h.next (Below.alloc (Below.refl _ _) (Nat.le_refl _) b)
end Go.Proofs.Ytigingjpdlfanaa
