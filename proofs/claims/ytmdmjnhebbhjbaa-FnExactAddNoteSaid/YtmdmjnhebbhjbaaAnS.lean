/-
  AddNote (spec).
-/
import Derived.Test.YtmdmjnhebbhjbaaAnP
namespace Go.Proofs.Ytmdmjnhebbhjbaa
set_option linter.unusedSimpArgs false
set_option linter.unusedVariables false
set_option maxRecDepth 20000
open Go.RowKit
open Go.ChangeShapes Go.WideShapes Go.Deep Go.Joins

set_option maxHeartbeats 8000000 in
theorem sAddNote_go (A1 A2 A3 : Option Addr) (c1 c2 c3 : Nat) (cs : List Ch) (ss : List (Sl (Sl Int))) (ns : List No) (p q : FlP) (n : No) (b : Bool) (code : Int) (w : World) (h : FileRd w ⟨⟨A1, c1, cs⟩, ⟨A2, c2, ss⟩, ⟨A3, c3, ns⟩⟩) (hp : filePl ⟨⟨A1, c1, cs⟩, ⟨A2, c2, ss⟩, ⟨A3, c3, ns⟩⟩ = p) (hs : PlSz p) (ht : PlTx p) (hx : n.text.size ≤ 1048576) (hb : Is b (FileOk p)) (hR : anR b p n = (q, code)) :
    Calls Try.prog 6 #[.agg #[.slice A1 cs.length c1, .slice A2 ss.length c2, .slice A3 ns.length c3], .agg #[.int .i64 n.fr, .int .i64 n.til, .string n.text]] w fun e w' => ∃ g : Fl, e = .returned (.tuple #[.agg #[.slice g.ch.A g.ch.l.length g.ch.c, .slice g.st.A g.st.l.length g.st.c, .slice g.no.A g.no.l.length g.no.c], .int .i64 code]) ∧ filePl g = q ∧ FileMine w' w.heap.size w'.heap.size g ∧ Below w.heap.size w w' := by
  have hsl : ss.length ≤ 1048576 := (FileSz.of_pl hp hs).st
  have hnl : ns.length ≤ 1048576 := (FileSz.of_pl hp hs).no
  have hps : p.st.length = ss.length := by rw [← hp]; show (ss.map rowsK.pl).length = _; rw [List.length_map]
  have hpn : p.no.length = ns.length := by rw [← hp]; rfl
  obtain ⟨v2, hv2⟩ : ∃ v, noB ss.length n = v := ⟨_, rfl⟩
  obtain ⟨v3, hv3⟩ : ∃ v, nameB n.text.data.toList = v := ⟨_, rfl⟩
  have HV2 := Lib.hid hv2
  have HV3 := Lib.hid hv3
  clear hv2 hv3
  have HPS := Lib.hid hps
  have HPN := Lib.hid hpn
  have HP := Lib.hid hp
  clear hps hpn
  go_enter Try.func6, Try.ntmps6
  go_upto_region 1 with fail
  obtain ⟨W0, hW0⟩ : ∃ z, z = ((w.alloc (.cells #[.slice A1 cs.length c1, .slice A2 ss.length c2, .slice A3 ns.length c3] 35)).alloc (.cells #[.int .i64 n.fr, .int .i64 n.til, .string n.text] 39)).alloc (.cells #[.slice none 0 0, .slice none 0 0, .slice none 0 0] 35) := ⟨_, rfl⟩
  rw [← hW0]
  have hBW0 : Below w.heap.size w W0 := by rw [hW0]; exact (((Below.refl _ _).alloc (Nat.le_refl _) _).alloc (by simp) _).alloc (by simp only [World.size_alloc]; omega) _
  have hSW0 : W0.heap.size ≤ w.heap.size + 1 + 1 + 1 := by rw [hW0]; simp
  have hSW1 : w.heap.size + 1 + 1 + 1 ≤ W0.heap.size := by rw [hW0]; simp
  have KF : Hid (Bk W0 w.heap.size 35 #[.slice A1 cs.length c1, .slice A2 ss.length c2, .slice A3 ns.length c3]) := by rw [hW0]; exact ((Bk.new w _ _).alloc _).alloc _
  have KN : Hid (Bk W0 (w.heap.size + 1) 39 #[.int .i64 n.fr, .int .i64 n.til, .string n.text]) := by rw [hW0]; exact (Bk.new1 w _ _ _).alloc _
  have KR : Hid (Bk W0 (w.heap.size + 1 + 1) 35 #[.slice none 0 0, .slice none 0 0, .slice none 0 0]) := by rw [hW0]; exact Bk.new2 w _ _ _ _
  have RF0 : Hid (FileRd W0 ⟨⟨A1, c1, cs⟩, ⟨A2, c2, ss⟩, ⟨A3, c3, ns⟩⟩) := h.below hBW0
  clear h hW0
  have hT := hBW0
  have q0 := (KF.out.next (Below.refl _ _)).cell 0
  have q1 := (KF.out.next (Below.refl _ _)).cell 1
  have q2 := (KF.out.next (Below.refl _ _)).cell 2
  have m0 := (KN.out.next (Below.refl _ _)).cell 0
  have m1 := (KN.out.next (Below.refl _ _)).cell 1
  have m2 := (KN.out.next (Below.refl _ _)).cell 2
  have r0 := (KR.out.next (Below.refl _ _)).cell 0
  have r1 := (KR.out.next (Below.refl _ _)).cell 1
  have r2 := (KR.out.next (Below.refl _ _)).cell 2
  have s0 := (KR.out.next (Below.refl _ _)).frozen 0
  have s1 := (KR.out.next (Below.refl _ _)).frozen 1
  have s2 := (KR.out.next (Below.refl _ _)).frozen 2
  have hgr := (KR.out.next (Below.refl _ _)).lt
  have hgf := (KF.out.next (Below.refl _ _)).lt
  have hgn := (KN.out.next (Below.refl _ _)).lt
  go_wp2_with fail
  have hcv := sOk_L w.heap.size ⟨⟨A1, c1, cs⟩, ⟨A2, c2, ss⟩, ⟨A3, c3, ns⟩⟩ p b _ (FBox.of_bk KF.out) RF0.out hp hs ht hb
  have HB := Lib.hid hb
  clear hp hs ht hb
  refine hcv.mono ?_
  rintro e w1 ⟨rfl, hb1⟩
  have hB1 : Below W0.heap.size W0 w1 := Below.next (Below.refl _ _) hb1
  clear hcv hb1 hT
  have hT := hBW0.trans (hB1.mono hBW0.size)
  clear q0 q1 q2 m0 m1 m2 r0 r1 r2 s0 s1 s2 hgr hgf hgn
  have q0 := (KF.out.next (hB1)).cell 0
  have q1 := (KF.out.next (hB1)).cell 1
  have q2 := (KF.out.next (hB1)).cell 2
  have m0 := (KN.out.next (hB1)).cell 0
  have m1 := (KN.out.next (hB1)).cell 1
  have m2 := (KN.out.next (hB1)).cell 2
  have r0 := (KR.out.next (hB1)).cell 0
  have r1 := (KR.out.next (hB1)).cell 1
  have r2 := (KR.out.next (hB1)).cell 2
  have s0 := (KR.out.next (hB1)).frozen 0
  have s1 := (KR.out.next (hB1)).frozen 1
  have s2 := (KR.out.next (hB1)).frozen 2
  have hgr := (KR.out.next (hB1)).lt
  have hgf := (KF.out.next (hB1)).lt
  have hgn := (KN.out.next (hB1)).lt
  cases b
  · skip
    rw [anR_1] at hR
    injection hR with e1 e2
    subst e1; subst e2
    go_wp2_with fail
    refine bodyPost_ret (by simp [results, Try.results6, go_sem, *]; try rfl) rfl ?_
    exact ⟨⟨⟨none, 0, []⟩, ⟨none, 0, []⟩, ⟨none, 0, []⟩⟩, rfl, rfl, FileMine.nil _ _ _, by have hT9 := hT; go_grown⟩
  go_wp2_with fail
  refine (l03Place_any w.heap.size A2 ss.length c2 (w.heap.size + 1) 0 n v2 _ ((KF.out.next hB1).cell 1) ((KN.out.next hB1).cell 0) ((KN.out.next hB1).cell 1) hsl HV2).mono ?_
  rintro e w2 ⟨rfl, hb2⟩
  have hB2 : Below W0.heap.size W0 w2 := Below.next hB1 hb2
  clear hb2 hT
  have hT := hBW0.trans (hB2.mono hBW0.size)
  clear q0 q1 q2 m0 m1 m2 r0 r1 r2 s0 s1 s2 hgr hgf hgn
  have q0 := (KF.out.next (hB2)).cell 0
  have q1 := (KF.out.next (hB2)).cell 1
  have q2 := (KF.out.next (hB2)).cell 2
  have m0 := (KN.out.next (hB2)).cell 0
  have m1 := (KN.out.next (hB2)).cell 1
  have m2 := (KN.out.next (hB2)).cell 2
  have r0 := (KR.out.next (hB2)).cell 0
  have r1 := (KR.out.next (hB2)).cell 1
  have r2 := (KR.out.next (hB2)).cell 2
  have s0 := (KR.out.next (hB2)).frozen 0
  have s1 := (KR.out.next (hB2)).frozen 1
  have s2 := (KR.out.next (hB2)).frozen 2
  have hgr := (KR.out.next (hB2)).lt
  have hgf := (KF.out.next (hB2)).lt
  have hgn := (KN.out.next (hB2)).lt
  cases v2
  · skip
    rw [anR_2 (by rw [HPS.out]; exact HV2.out)] at hR
    injection hR with e1 e2
    subst e1; subst e2
    go_wp2_with fail
    refine bodyPost_ret (by simp [results, Try.results6, go_sem, *]; try rfl) rfl ?_
    exact ⟨⟨⟨none, 0, []⟩, ⟨none, 0, []⟩, ⟨none, 0, []⟩⟩, rfl, rfl, FileMine.nil _ _ _, by have hT9 := hT; go_grown⟩
  go_wp2_with fail
  refine (sIsName_is HV3 hx _).mono ?_
  rintro e w3 ⟨rfl, h93⟩
  have hb3 : Below w2.heap.size w2 w3 := by rw [← h93]; exact Below.refl _ _
  clear h93
  have hB3 : Below W0.heap.size W0 w3 := Below.next hB2 hb3
  clear hb3 hT
  have hT := hBW0.trans (hB3.mono hBW0.size)
  clear q0 q1 q2 m0 m1 m2 r0 r1 r2 s0 s1 s2 hgr hgf hgn
  have q0 := (KF.out.next (hB3)).cell 0
  have q1 := (KF.out.next (hB3)).cell 1
  have q2 := (KF.out.next (hB3)).cell 2
  have m0 := (KN.out.next (hB3)).cell 0
  have m1 := (KN.out.next (hB3)).cell 1
  have m2 := (KN.out.next (hB3)).cell 2
  have r0 := (KR.out.next (hB3)).cell 0
  have r1 := (KR.out.next (hB3)).cell 1
  have r2 := (KR.out.next (hB3)).cell 2
  have s0 := (KR.out.next (hB3)).frozen 0
  have s1 := (KR.out.next (hB3)).frozen 1
  have s2 := (KR.out.next (hB3)).frozen 2
  have hgr := (KR.out.next (hB3)).lt
  have hgf := (KF.out.next (hB3)).lt
  have hgn := (KN.out.next (hB3)).lt
  cases v3
  · skip
    rw [anR_7 (by rw [HPS.out]; exact HV2.out) HV3.out] at hR
    injection hR with e1 e2
    subst e1; subst e2
    go_wp2_with fail
    refine bodyPost_ret (by simp [results, Try.results6, go_sem, *]; try rfl) rfl ?_
    exact ⟨⟨⟨none, 0, []⟩, ⟨none, 0, []⟩, ⟨none, 0, []⟩⟩, rfl, rfl, FileMine.nil _ _ _, by have hT9 := hT; go_grown⟩
  by_cases h12 : (12 : Int) ≤ (ns.length : Int)
  · skip
    rw [anR_5 (by rw [HPS.out]; exact HV2.out) HV3.out (by rw [HPN.out]; omega)] at hR
    injection hR with e1 e2
    subst e1; subst e2
    go_wp2_with fail
    refine bodyPost_ret (by simp [results, Try.results6, go_sem, *]; try rfl) rfl ?_
    exact ⟨⟨⟨none, 0, []⟩, ⟨none, 0, []⟩, ⟨none, 0, []⟩⟩, rfl, rfl, FileMine.nil _ _ _, by have hT9 := hT; go_grown⟩
  rw [anR_0 (by rw [HPS.out]; exact HV2.out) HV3.out (by rw [HPN.out]; omega)] at hR
  injection hR with e1 e2
  subst e1; subst e2
  have HOK : Hid (FileOk p) := HB.out.1 rfl
  have RF3 : FileRd w3 ⟨⟨A1, c1, cs⟩, ⟨A2, c2, ss⟩, ⟨A3, c3, ns⟩⟩ := RF0.out.below hB3
  go_wp2_with fail
  refine (sCopy_L w.heap.size ⟨⟨A1, c1, cs⟩, ⟨A2, c2, ss⟩, ⟨A3, c3, ns⟩⟩ p _ (FBox.of_bk (KF.out.next hB3)) RF3 HP.out HOK.out).mono ?_
  rintro e w4 ⟨⟨⟨B1, d1, gs⟩, ⟨B2, d2, ts⟩, ⟨B3, d3, ms⟩⟩, rfl, hpg, hm, hb4⟩
  have hB4 : Below W0.heap.size W0 w4 := Below.next hB3 hb4
  have hz4 := hb4.size
  have hz3 := hB3.size
  clear hb4 hT RF3
  have hT := hBW0.trans (hB4.mono hBW0.size)
  have HPG := Lib.hid hpg
  have HM := Lib.hid hm
  clear hpg hm
  clear q0 q1 q2 m0 m1 m2 r0 r1 r2 s0 s1 s2 hgr hgf hgn
  have q0 := (KF.out.next (hB4)).cell 0
  have q1 := (KF.out.next (hB4)).cell 1
  have q2 := (KF.out.next (hB4)).cell 2
  have m0 := (KN.out.next (hB4)).cell 0
  have m1 := (KN.out.next (hB4)).cell 1
  have m2 := (KN.out.next (hB4)).cell 2
  have r0 := (KR.out.next (hB4)).cell 0
  have r1 := (KR.out.next (hB4)).cell 1
  have r2 := (KR.out.next (hB4)).cell 2
  have s0 := (KR.out.next (hB4)).frozen 0
  have s1 := (KR.out.next (hB4)).frozen 1
  have s2 := (KR.out.next (hB4)).frozen 2
  have hgr := (KR.out.next (hB4)).lt
  have hgf := (KF.out.next (hB4)).lt
  have hgn := (KN.out.next (hB4)).lt
  dsimp only
  have hml : ms.length ≤ 1048576 := by
    have h1 : ms = p.no := congrArg FlP.no HPG.out
    rw [h1, HPN.out]; exact hnl
  obtain ⟨m1', h1'⟩ : ∃ m, gs.length = m := ⟨_, rfl⟩
  obtain ⟨m2', h2'⟩ : ∃ m, ts.length = m := ⟨_, rfl⟩
  obtain ⟨m3', h3'⟩ : ∃ m, ms.length = m := ⟨_, rfl⟩
  rw [h1', h2', h3']
  rw [h3'] at hml
  have L1 := Lib.hid h1'
  have L2 := Lib.hid h2'
  have L3 := Lib.hid h3'
  clear h1' h2' h3'
  go_upto_region 10 with fail
  obtain ⟨w6, hw6⟩ : ∃ z, z = w4.alloc (.cells #[.slice B1 m1' d1, .slice B2 m2' d2, .slice B3 m3' d3] 35) := ⟨_, rfl⟩
  rw [← hw6]
  have hB46 : Below w4.heap.size w4 w6 := by rw [hw6]; exact (Below.refl _ _).alloc (Nat.le_refl _) _
  have hS6a : w6.heap.size ≤ w4.heap.size + 1 := by rw [hw6]; simp
  have hS6b : w4.heap.size + 1 ≤ w6.heap.size := by rw [hw6]; simp
  obtain ⟨vn, hvn⟩ : ∃ v, Value.slice B3 m3' d3 = v := ⟨_, rfl⟩
  have HV : Hid (Value.slice B3 ms.length d3 = vn) := by rw [Hid, L3.out]; exact hvn
  have K6 : Hid (Bk w6 w4.heap.size 35 #[.slice B1 m1' d1, .slice B2 m2' d2, vn]) := by rw [hw6, hvn]; exact Bk.new w4 _ _
  clear hw6
  try rw [hvn]
  clear hvn
  have HM6 := Lib.hid (HM.out.next hB46)
  have HO : Hid (Own noC 39 3 w6 0 vn ms) := by rw [← HV.out]; exact HM6.out.no.own.1
  have HI : Hid (∀ b, vn.ownBlock = some b → w3.heap.size ≤ b ∧ b < w4.heap.size) := fun b hb => HM.out.no.rng b (Kd.fp_top (s := ⟨B3, d3, ms⟩) (by show (Value.slice B3 ms.length d3).ownBlock = some b; rw [HV.out]; exact hb))
  have hB6 : Below W0.heap.size W0 w6 := Below.next hB4 hB46
  clear hT
  have hT := hBW0.trans (hB6.mono hBW0.size)
  have hTs := hT.size
  clear q0 q1 q2 m0 m1 m2 r0 r1 r2 s0 s1 s2 hgr hgf hgn
  have q0 := (KF.out.next (hB6)).cell 0
  have q1 := (KF.out.next (hB6)).cell 1
  have q2 := (KF.out.next (hB6)).cell 2
  have m0 := (KN.out.next (hB6)).cell 0
  have m1 := (KN.out.next (hB6)).cell 1
  have m2 := (KN.out.next (hB6)).cell 2
  have r0 := (KR.out.next (hB6)).cell 0
  have r1 := (KR.out.next (hB6)).cell 1
  have r2 := (KR.out.next (hB6)).cell 2
  have s0 := (KR.out.next (hB6)).frozen 0
  have s1 := (KR.out.next (hB6)).frozen 1
  have s2 := (KR.out.next (hB6)).frozen 2
  have hgr := (KR.out.next (hB6)).lt
  have hgf := (KF.out.next (hB6)).lt
  have hgn := (KN.out.next (hB6)).lt
  have k0 := K6.out.cell 0
  have k1 := K6.out.cell 1
  have k2 := K6.out.cell 2
  have f2 := K6.out.frozen 2
  have hk6 := K6.out.lt
  have hneb : ¬ w4.heap.size = w.heap.size + 1 + 1 := by omega
  go_wp2_with ((at_builtin; refine list_push elem_no (by rfl) (.tmp 25) (.tmp 27) 33 (by rfl) Try.underlying33 0 vn ms n (by rfl) (HO.out.alloc _) m3' L3.out w6.heap.size 1 (by rfl) (fun i u hu => ((Bk.new w6 #[.int .i64 n.fr, .int .i64 n.til, .string n.text] 39).cell i).trans (by simpa [noC] using hu)) (by unfold maxLen; omega) (by omega) (by simp only [World.size_alloc]; omega) ?_; intro g5 cap5 w5 hown5 hgrow5 hat5 hlt5 hkeep5; have hbk5 : Bk w5 w4.heap.size 35 #[.slice B1 m1' d1, .slice B2 m2' d2, vn] := (hgrow5.block _ (by simp only [World.size_alloc]; omega) (fun e => by have h2 := HI.out _ e.symm; omega)).trans (K6.out.alloc _); have hkr5 : Bk w5 (w.heap.size + 1 + 1) 35 #[.slice none 0 0, .slice none 0 0, .slice none 0 0] := (hgrow5.block _ (by simp only [World.size_alloc]; omega) (fun e => by have h2 := HI.out _ e.symm; omega)).trans ((KR.out.next hB6).alloc _); have e50 := hbk5.cell 0; have e51 := hbk5.cell 1; have e52 := hbk5.cell 2; have f52 := hbk5.frozen 2; have t50 := hkr5.cell 0; have t51 := hkr5.cell 1; have t52 := hkr5.cell 2; have u50 := hkr5.frozen 0; have u51 := hkr5.frozen 1; have u52 := hkr5.frozen 2; have hz5 := hgrow5.size; simp only [World.size_alloc] at hz5; have hgl5 := hbk5.lt; have hrl5 := hkr5.lt))
  refine bodyPost_ret (by simp [results, Try.results6, go_sem, *]; try rfl) rfl ?_
  have hg5 := hgrow5
  rw [← HV.out] at hg5
  have ha5 := hat5
  rw [← HV.out] at ha5
  have hpush := FileMine.pushNo (g := g5) (cap := cap5) (B := 0) (wi := w6) (a := n) HM6.out (by omega) (by omega) ((Below.refl _ _).alloc (Nat.le_refl _) _) hg5 ha5 hlt5 (by rw [L3.out]; exact hown5)
  have hfpN : ∀ b ∈ fileFp ⟨⟨B1, d1, gs⟩, ⟨B2, d2, ts⟩, ⟨some ⟨g5, 0, none⟩, cap5, ms ++ [n]⟩⟩, b ≠ w4.heap.size := fun b hb => by
    rcases pushNo_fp ha5 hb with h1 | h1
    · have h2 := HM6.out.rng b h1; omega
    · simp only [World.size_alloc] at h1; omega
  have hfin := hpush.besides (ChgF.setCell w5 w4.heap.size 2 (.slice (some ⟨g5, 0, none⟩) (m3' + 1) cap5)) (fun b hb hm => hfpN b hb (by simpa using hm))
  have hG := (hT.alloc (show w.heap.size ≤ w6.heap.size by omega) (.cells #[.int .i64 n.fr, .int .i64 n.til, .string n.text] 39)).grown hgrow5 (by simp only [World.size_alloc]; omega) (fun b hb => by have h2 := HI.out b hb; omega)
  have hr2 : w.heap.size ≤ w.heap.size + 1 + 1 := by omega
  refine ⟨⟨⟨B1, d1, gs⟩, ⟨B2, d2, ts⟩, ⟨some ⟨g5, 0, none⟩, cap5, ms ++ [n]⟩⟩, ?_, ?_, ?_, ?_⟩
  · show _ = Ending.returned (.tuple #[.agg #[.slice B1 gs.length d1, .slice B2 ts.length d2, .slice (some ⟨g5, 0, none⟩) (ms ++ [n]).length cap5], .int .i64 0])
    rw [List.length_append, L1.out, L2.out, L3.out]; rfl
  · rw [← HPG.out]; rfl
  · have h1 := ((hfin.set (bF := w.heap.size + 1 + 1) (o := 0) (u := .slice B1 m1' d1) (by omega)).set (bF := w.heap.size + 1 + 1) (o := 1) (u := .slice B2 m2' d2) (by omega)).set (bF := w.heap.size + 1 + 1) (o := 2) (u := .slice (some ⟨g5, 0, none⟩) (m3' + 1) cap5) (by omega)
    exact h1.low (by omega) (by simp [World.setCell])
  · refine Below.setCell (Below.setCell (Below.setCell (Below.setCell hG ?_ _) ?_ _) ?_ _) ?_ _
    · show w.heap.size ≤ w4.heap.size; omega
    · exact hr2
    · exact hr2
    · exact hr2
end Go.Proofs.Ytmdmjnhebbhjbaa
