/-
  The law of FileText returns true: program and reference write the same text of a file.
-/
import Derived.Test.YtmdmjnhebbhjbaaDoorFTx
import Derived.Test.YtmdmjnhebbhjbaaDoorFTxIL
import Derived.Test.YtmdmjnhebbhjbaaDoorFileW
import Derived.Test.YtmdmjnhebbhjbaaDoorBaseC
namespace Go.Proofs.YtmdmjnhebbhjbaaDoor
set_option linter.unusedSimpArgs false
set_option linter.unusedVariables false
set_option maxRecDepth 20000
open Go.RowKit
open Go.ChangeShapes Go.WideShapes Go.Deep Go.Joins

set_option maxHeartbeats 16000000 in
set_option maxRecDepth 100000 in
theorem FileText_walk {w : World} (f0 : Fl) (hg0 : FileGood w f0)  (htb : Tab10 w) :
    Calls Tryd.prog 3 #[.agg #[.slice f0.ch.A f0.ch.l.length f0.ch.c, .slice f0.st.A f0.st.l.length f0.st.c, .slice f0.no.A f0.no.l.length f0.no.c]] w (Yes w) := by
  have HF0_0 := Lib.hid hg0.1
  have hcap0 := hg0.2
  clear hg0
  have TB_0 := Lib.hid htb
  clear htb
  by_cases hle0 : flSz f0 ≤ 1048576
  rotate_left
  · go_enter Tryd.func3, Tryd.ntmps3
    go_wp2_with fail
    refine (szFile_no f0 1048576 _ (by first | exact HF0_0.out | exact HF0_0.out.alloc _ | exact (HF0_0.out.alloc _).alloc _ | exact ((HF0_0.out.alloc _).alloc _).alloc _ | exact HF0_0.out.drew | exact (HF0_0.out.drew).alloc _) hcap0 (by omega) hle0).mono ?_
    rintro e w1 ⟨rfl, hb1⟩
    have hB1 : Below w.heap.size w w1 := Below.next (by go_grown) hb1
    have hT1 : Below w.heap.size w w1 := hB1
    have hz1 := hb1.size
    (try simp only [World.size_alloc, World.size_drew] at hz1)
    have bx0_l1 : w.heap.size < w1.heap.size := by omega
    have bx0_0_1 : w1.cell? ⟨w.heap.size, 0, none⟩ = some (.slice f0.ch.A f0.ch.l.length f0.ch.c) := (hb1.cell (p := ⟨w.heap.size, 0, none⟩) (by (try simp only [World.size_alloc, World.size_drew]); omega)).trans (by go_simp)
    have bx0_1_1 : w1.cell? ⟨w.heap.size, 1, none⟩ = some (.slice f0.st.A f0.st.l.length f0.st.c) := (hb1.cell (p := ⟨w.heap.size, 1, none⟩) (by (try simp only [World.size_alloc, World.size_drew]); omega)).trans (by go_simp)
    have bx0_2_1 : w1.cell? ⟨w.heap.size, 2, none⟩ = some (.slice f0.no.A f0.no.l.length f0.no.c) := (hb1.cell (p := ⟨w.heap.size, 2, none⟩) (by (try simp only [World.size_alloc, World.size_drew]); omega)).trans (by go_simp)
    have HF0_1 := Lib.hid (HF0_0.out.below hT1)
    have TB_1 := Lib.hid (TB_0.out.below hT1)
    go_wp2_with fail
    go_ret
    exact ⟨rfl, by go_grown⟩
  have HLE0 := Lib.hid hle0
  obtain ⟨r0, hr0⟩ : ∃ r, 1048576 - flSz f0 = r := ⟨_, rfl⟩
  have hrb0 : r0 ≤ 1048576 := by omega
  have HR0 := Lib.hid hr0
  obtain ⟨hsz0, htx0, _⟩ := flSz_pl (f := f0) (by omega)
  obtain ⟨p0, hp0⟩ : ∃ p, filePl f0 = p := ⟨_, rfl⟩
  rw [hp0] at hsz0 htx0
  have HSZp0 := Lib.hid hsz0
  have HTXp0 := Lib.hid htx0
  have HP0 := Lib.hid hp0
  clear hsz0 htx0 hp0 hle0
  obtain ⟨mmp0, hmm0⟩ : ∃ mm, 1 + cntPl p0 = mm := ⟨_, rfl⟩
  have hmb0 : mmp0 ≤ 33554433 := by have := HSZp0.out.cnt; omega
  have HMMp0 := Lib.hid hmm0
  clear hmm0
  obtain ⟨v, hv⟩ := bool_of (FileOk p0)
  have HV : Is v (FileOk p0) := hv
  clear hv
  go_enter Tryd.func3, Tryd.ntmps3
  go_wp2_with fail
  refine (szFile_ok f0 1048576 _ (by first | exact HF0_0.out | exact HF0_0.out.alloc _ | exact (HF0_0.out.alloc _).alloc _ | exact ((HF0_0.out.alloc _).alloc _).alloc _ | exact HF0_0.out.drew | exact (HF0_0.out.drew).alloc _) hcap0 (by omega) HLE0.out HR0.out).mono ?_
  rintro e w1 ⟨rfl, hb1⟩
  have hB1 : Below w.heap.size w w1 := Below.next (by go_grown) hb1
  have hT1 : Below w.heap.size w w1 := hB1
  have hz1 := hb1.size
  (try simp only [World.size_alloc, World.size_drew] at hz1)
  have bx0_l1 : w.heap.size < w1.heap.size := by omega
  have bx0_0_1 : w1.cell? ⟨w.heap.size, 0, none⟩ = some (.slice f0.ch.A f0.ch.l.length f0.ch.c) := (hb1.cell (p := ⟨w.heap.size, 0, none⟩) (by (try simp only [World.size_alloc, World.size_drew]); omega)).trans (by go_simp)
  have bx0_1_1 : w1.cell? ⟨w.heap.size, 1, none⟩ = some (.slice f0.st.A f0.st.l.length f0.st.c) := (hb1.cell (p := ⟨w.heap.size, 1, none⟩) (by (try simp only [World.size_alloc, World.size_drew]); omega)).trans (by go_simp)
  have bx0_2_1 : w1.cell? ⟨w.heap.size, 2, none⟩ = some (.slice f0.no.A f0.no.l.length f0.no.c) := (hb1.cell (p := ⟨w.heap.size, 2, none⟩) (by (try simp only [World.size_alloc, World.size_drew]); omega)).trans (by go_simp)
  have HF0_1 := Lib.hid (HF0_0.out.below hT1)
  have TB_1 := Lib.hid (TB_0.out.below hT1)
  go_wp2_with fail
  refine (toFile_L f0 p0 _ (by first | exact HF0_1.out | exact HF0_1.out.alloc _ | exact (HF0_1.out.alloc _).alloc _ | exact ((HF0_1.out.alloc _).alloc _).alloc _ | exact HF0_1.out.drew | exact (HF0_1.out.drew).alloc _) HP0.out HSZp0.out).mono ?_
  rintro e w2 ⟨t2, rfl, hp2, ho2, hb2⟩
  have hB2 : Below w1.heap.size w1 w2 := Below.next (by go_grown) hb2
  have hT2 : Below w.heap.size w w2 := Below.next hT1 hB2
  have hz2 := hb2.size
  (try simp only [World.size_alloc, World.size_drew] at hz2)
  have bx0_l2 : w.heap.size < w2.heap.size := Nat.lt_of_lt_of_le bx0_l1 hB2.size
  have bx0_0_2 : w2.cell? ⟨w.heap.size, 0, none⟩ = some (.slice f0.ch.A f0.ch.l.length f0.ch.c) := (hB2.cell (p := ⟨w.heap.size, 0, none⟩) bx0_l1).trans bx0_0_1
  have bx0_1_2 : w2.cell? ⟨w.heap.size, 1, none⟩ = some (.slice f0.st.A f0.st.l.length f0.st.c) := (hB2.cell (p := ⟨w.heap.size, 1, none⟩) bx0_l1).trans bx0_1_1
  have bx0_2_2 : w2.cell? ⟨w.heap.size, 2, none⟩ = some (.slice f0.no.A f0.no.l.length f0.no.c) := (hB2.cell (p := ⟨w.heap.size, 2, none⟩) bx0_l1).trans bx0_2_1
  clear bx0_l1 bx0_0_1 bx0_1_1 bx0_2_1
  have HF0_2 := Lib.hid (HF0_0.out.below hT2)
  clear HF0_1
  have TB_2 := Lib.hid (TB_0.out.below hT2)
  clear TB_1
  have XS_2 : Hid (FileMine w2 (w1.heap.size) (w2.heap.size) t2) := by have h := ho2; (try simp only [World.size_alloc, World.size_drew] at h); exact h
  have XS_p : Hid (filePl t2 = p0) := hp2
  clear ho2 hp2
  go_wp2_with fail
  refine (sFileText_L t2 p0 v _ (by first | exact XS_2.out.rd | exact XS_2.out.rd.alloc _ | exact (XS_2.out.rd.alloc _).alloc _ | exact ((XS_2.out.rd.alloc _).alloc _).alloc _ | exact (((XS_2.out.rd.alloc _).alloc _).alloc _).alloc _ | exact XS_2.out.rd.drew | exact (XS_2.out.rd.drew).alloc _) XS_p.out HSZp0.out HTXp0.out HV).mono ?_
  rintro e w3 ⟨rfl, hb3⟩
  have hB3 : Below w2.heap.size w2 w3 := Below.next (by go_grown) hb3
  have hT3 : Below w.heap.size w w3 := Below.next hT2 hB3
  have hz3 := hb3.size
  (try simp only [World.size_alloc, World.size_drew] at hz3)
  have bx0_l3 : w.heap.size < w3.heap.size := Nat.lt_of_lt_of_le bx0_l2 hB3.size
  have bx0_0_3 : w3.cell? ⟨w.heap.size, 0, none⟩ = some (.slice f0.ch.A f0.ch.l.length f0.ch.c) := (hB3.cell (p := ⟨w.heap.size, 0, none⟩) bx0_l2).trans bx0_0_2
  have bx0_1_3 : w3.cell? ⟨w.heap.size, 1, none⟩ = some (.slice f0.st.A f0.st.l.length f0.st.c) := (hB3.cell (p := ⟨w.heap.size, 1, none⟩) bx0_l2).trans bx0_1_2
  have bx0_2_3 : w3.cell? ⟨w.heap.size, 2, none⟩ = some (.slice f0.no.A f0.no.l.length f0.no.c) := (hB3.cell (p := ⟨w.heap.size, 2, none⟩) bx0_l2).trans bx0_2_2
  clear bx0_l2 bx0_0_2 bx0_1_2 bx0_2_2
  have HF0_3 := Lib.hid (HF0_0.out.below hT3)
  clear HF0_2
  have TB_3 := Lib.hid (TB_0.out.below hT3)
  clear TB_2
  have XS_3 := Lib.hid (XS_2.out.next hB3)
  clear XS_2
  go_wp2_with fail
  refine (toFile_L f0 p0 _ (by first | exact HF0_3.out | exact HF0_3.out.alloc _ | exact (HF0_3.out.alloc _).alloc _ | exact ((HF0_3.out.alloc _).alloc _).alloc _ | exact HF0_3.out.drew | exact (HF0_3.out.drew).alloc _) HP0.out HSZp0.out).mono ?_
  rintro e w4 ⟨t4, rfl, hp4, ho4, hb4⟩
  have hB4 : Below w3.heap.size w3 w4 := Below.next (by go_grown) hb4
  have hT4 : Below w.heap.size w w4 := Below.next hT3 hB4
  have hz4 := hb4.size
  (try simp only [World.size_alloc, World.size_drew] at hz4)
  have bx0_l4 : w.heap.size < w4.heap.size := Nat.lt_of_lt_of_le bx0_l3 hB4.size
  have bx0_0_4 : w4.cell? ⟨w.heap.size, 0, none⟩ = some (.slice f0.ch.A f0.ch.l.length f0.ch.c) := (hB4.cell (p := ⟨w.heap.size, 0, none⟩) bx0_l3).trans bx0_0_3
  have bx0_1_4 : w4.cell? ⟨w.heap.size, 1, none⟩ = some (.slice f0.st.A f0.st.l.length f0.st.c) := (hB4.cell (p := ⟨w.heap.size, 1, none⟩) bx0_l3).trans bx0_1_3
  have bx0_2_4 : w4.cell? ⟨w.heap.size, 2, none⟩ = some (.slice f0.no.A f0.no.l.length f0.no.c) := (hB4.cell (p := ⟨w.heap.size, 2, none⟩) bx0_l3).trans bx0_2_3
  clear bx0_l3 bx0_0_3 bx0_1_3 bx0_2_3
  have HF0_4 := Lib.hid (HF0_0.out.below hT4)
  clear HF0_3
  have TB_4 := Lib.hid (TB_0.out.below hT4)
  clear TB_3
  have X0_4 : Hid (FileMine w4 (w3.heap.size) (w4.heap.size) t4) := by have h := ho4; (try simp only [World.size_alloc, World.size_drew] at h); exact h
  have X0_p : Hid (filePl t4 = p0) := hp4
  clear ho4 hp4
  go_wp2_with fail
  refine (iFileText_L t4 p0 v _ (by first | exact X0_4.out.rd | exact X0_4.out.rd.alloc _ | exact (X0_4.out.rd.alloc _).alloc _ | exact ((X0_4.out.rd.alloc _).alloc _).alloc _ | exact (((X0_4.out.rd.alloc _).alloc _).alloc _).alloc _ | exact X0_4.out.rd.drew | exact (X0_4.out.rd.drew).alloc _) X0_p.out HSZp0.out HTXp0.out HV (TB_4.out.below (by go_grown))).mono ?_
  rintro e w5 ⟨rfl, hb5⟩
  have hB5 : Below w4.heap.size w4 w5 := Below.next (by go_grown) hb5
  have hT5 : Below w.heap.size w w5 := Below.next hT4 hB5
  have hz5 := hb5.size
  (try simp only [World.size_alloc, World.size_drew] at hz5)
  have bx0_l5 : w.heap.size < w5.heap.size := Nat.lt_of_lt_of_le bx0_l4 hB5.size
  have bx0_0_5 : w5.cell? ⟨w.heap.size, 0, none⟩ = some (.slice f0.ch.A f0.ch.l.length f0.ch.c) := (hB5.cell (p := ⟨w.heap.size, 0, none⟩) bx0_l4).trans bx0_0_4
  have bx0_1_5 : w5.cell? ⟨w.heap.size, 1, none⟩ = some (.slice f0.st.A f0.st.l.length f0.st.c) := (hB5.cell (p := ⟨w.heap.size, 1, none⟩) bx0_l4).trans bx0_1_4
  have bx0_2_5 : w5.cell? ⟨w.heap.size, 2, none⟩ = some (.slice f0.no.A f0.no.l.length f0.no.c) := (hB5.cell (p := ⟨w.heap.size, 2, none⟩) bx0_l4).trans bx0_2_4
  have bX0_l5 : w4.heap.size < w5.heap.size := by omega
  have bX0_0_5 : w5.cell? ⟨w4.heap.size, 0, none⟩ = some (.slice t4.ch.A t4.ch.l.length t4.ch.c) := (hb5.cell (p := ⟨w4.heap.size, 0, none⟩) (by (try simp only [World.size_alloc, World.size_drew]); omega)).trans (by go_simp)
  have bX0_1_5 : w5.cell? ⟨w4.heap.size, 1, none⟩ = some (.slice t4.st.A t4.st.l.length t4.st.c) := (hb5.cell (p := ⟨w4.heap.size, 1, none⟩) (by (try simp only [World.size_alloc, World.size_drew]); omega)).trans (by go_simp)
  have bX0_2_5 : w5.cell? ⟨w4.heap.size, 2, none⟩ = some (.slice t4.no.A t4.no.l.length t4.no.c) := (hb5.cell (p := ⟨w4.heap.size, 2, none⟩) (by (try simp only [World.size_alloc, World.size_drew]); omega)).trans (by go_simp)
  clear bx0_l4 bx0_0_4 bx0_1_4 bx0_2_4
  have HF0_5 := Lib.hid (HF0_0.out.below hT5)
  clear HF0_4
  have TB_5 := Lib.hid (TB_0.out.below hT5)
  clear TB_4
  have X0_5 := Lib.hid (X0_4.out.next hB5)
  clear X0_4
  go_wp2_with fail
  refine wp_region_held_drew (S := (fun w' => (∀ kb ko, kb < w5.heap.size → w'.cell? ⟨kb, ko, none⟩ = w5.cell? ⟨kb, ko, none⟩) ∧ w5.heap.size ≤ w'.heap.size ∧ Below w5.heap.size w5 w')) (by kernel_rfl) ?_ (fun hHeld => ?_)
  · (try dsimp only); (first | exact SB.mk hkB | exact SB.mk ((Below.refl _ _).drew) | (refine SB.mk ?_; go_grown; done) | (go_split_ands; refine SB.mk (Below.drew ?_); assumption) | (go_split_ands; refine SB.mk ?_; go_grown; done))
  first | (refine take_on (i := 0) (v := ?_) rfl (by kernel_rfl) (by kernel_rfl) (by kernel_rfl) (fun _ _ _ h => h) rfl ?_ (by assumption) ?_; rotate_left; · (intro w' hSw; (try dsimp only at hSw); go_simp; (try with_reducible rfl))) | (refine take_off (i := 0) rfl (by kernel_rfl) (by kernel_rfl) (by kernel_rfl) (fun _ _ _ h => h) rfl (by assumption) ?_)
  (try simp only [Act.put, List.setIfInBounds_toArray, List.set_cons_zero, List.set_cons_succ])
  first | (refine take_on (i := 1) (v := ?_) rfl (by kernel_rfl) (by kernel_rfl) (by kernel_rfl) (fun _ _ _ h => h) rfl ?_ (by assumption) ?_; rotate_left; · (intro w' hSw; (try dsimp only at hSw); go_simp; (try with_reducible rfl))) | (refine take_off (i := 1) rfl (by kernel_rfl) (by kernel_rfl) (by kernel_rfl) (fun _ _ _ h => h) rfl (by assumption) ?_)
  (try simp only [Act.put, List.setIfInBounds_toArray, List.set_cons_zero, List.set_cons_succ])
  refine wpAnyH_ready (rs := [2]) (by kernel_rfl) (by simp) ?_
  refine AllReadyH.cons rfl (fun K hK => ?_) AllReadyH.nil
  rw [if_pos (by rfl)]
  go_simp
  go_at_call 6
  refine (toFile_L f0 p0 _ (by first | exact HF0_5.out | exact HF0_5.out.alloc _ | exact (HF0_5.out.alloc _).alloc _ | exact ((HF0_5.out.alloc _).alloc _).alloc _ | exact HF0_5.out.drew | exact (HF0_5.out.drew).alloc _) HP0.out HSZp0.out).mono ?_
  rintro e w6 ⟨t6, rfl, hp6, ho6, hb6⟩
  have hB6 : Below w5.heap.size w5 w6 := Below.next (by go_grown) hb6
  have hT6 : Below w.heap.size w w6 := Below.next hT5 hB6
  have hz6 := hb6.size
  (try simp only [World.size_alloc, World.size_drew] at hz6)
  have bx0_l6 : w.heap.size < w6.heap.size := Nat.lt_of_lt_of_le bx0_l5 hB6.size
  have bx0_0_6 : w6.cell? ⟨w.heap.size, 0, none⟩ = some (.slice f0.ch.A f0.ch.l.length f0.ch.c) := (hB6.cell (p := ⟨w.heap.size, 0, none⟩) bx0_l5).trans bx0_0_5
  have bx0_1_6 : w6.cell? ⟨w.heap.size, 1, none⟩ = some (.slice f0.st.A f0.st.l.length f0.st.c) := (hB6.cell (p := ⟨w.heap.size, 1, none⟩) bx0_l5).trans bx0_1_5
  have bx0_2_6 : w6.cell? ⟨w.heap.size, 2, none⟩ = some (.slice f0.no.A f0.no.l.length f0.no.c) := (hB6.cell (p := ⟨w.heap.size, 2, none⟩) bx0_l5).trans bx0_2_5
  have bX0_l6 : w4.heap.size < w6.heap.size := Nat.lt_of_lt_of_le bX0_l5 hB6.size
  have bX0_0_6 : w6.cell? ⟨w4.heap.size, 0, none⟩ = some (.slice t4.ch.A t4.ch.l.length t4.ch.c) := (hB6.cell (p := ⟨w4.heap.size, 0, none⟩) bX0_l5).trans bX0_0_5
  have bX0_1_6 : w6.cell? ⟨w4.heap.size, 1, none⟩ = some (.slice t4.st.A t4.st.l.length t4.st.c) := (hB6.cell (p := ⟨w4.heap.size, 1, none⟩) bX0_l5).trans bX0_1_5
  have bX0_2_6 : w6.cell? ⟨w4.heap.size, 2, none⟩ = some (.slice t4.no.A t4.no.l.length t4.no.c) := (hB6.cell (p := ⟨w4.heap.size, 2, none⟩) bX0_l5).trans bX0_2_5
  clear bx0_l5 bx0_0_5 bx0_1_5 bx0_2_5 bX0_l5 bX0_0_5 bX0_1_5 bX0_2_5
  have HF0_6 := Lib.hid (HF0_0.out.below hT6)
  clear HF0_5
  have TB_6 := Lib.hid (TB_0.out.below hT6)
  clear TB_5
  have X0_6 := Lib.hid (X0_5.out.next hB6)
  clear X0_5
  refine hK.out _ _ ?_ (fun hHeld2 => ?_)
  · (try dsimp only); exact SB.mk (Below.next (by go_grown) hb6)
  have hQ0 : Below w5.heap.size w5 w6 := Below.next (by go_grown) hb6
  clear hK K hHeld; have hHeld := hHeld2; clear hHeld2; (try simp only [Act.put, List.setIfInBounds_toArray, List.set_cons_zero, List.set_cons_succ])
  have XE_6 : Hid (FileMine w6 (w5.heap.size) (w6.heap.size) t6) := by have h := ho6; (try simp only [World.size_alloc, World.size_drew] at h); exact h
  have XE_p : Hid (filePl t6 = p0) := hp6
  clear ho6 hp6
  refine wpAnyH_ready (rs := [3]) (by kernel_rfl) (by simp) ?_
  refine AllReadyH.cons rfl (fun K hK => ?_) AllReadyH.nil
  rw [if_pos (by rfl)]
  go_simp
  go_at_call 8
  refine (eqFile_L t4 t6 p0 _ (by first | exact X0_6.out.rd | exact X0_6.out.rd.alloc _ | exact (X0_6.out.rd.alloc _).alloc _ | exact ((X0_6.out.rd.alloc _).alloc _).alloc _ | exact (((X0_6.out.rd.alloc _).alloc _).alloc _).alloc _ | exact X0_6.out.rd.drew | exact (X0_6.out.rd.drew).alloc _) (by first | exact XE_6.out.rd | exact XE_6.out.rd.alloc _ | exact (XE_6.out.rd.alloc _).alloc _ | exact ((XE_6.out.rd.alloc _).alloc _).alloc _ | exact (((XE_6.out.rd.alloc _).alloc _).alloc _).alloc _ | exact XE_6.out.rd.drew | exact (XE_6.out.rd.drew).alloc _) X0_p.out XE_p.out HSZp0.out).mono ?_
  rintro e w7 ⟨rfl, hb7⟩
  have hB7 : Below w6.heap.size w6 w7 := Below.next (by go_grown) hb7
  have hT7 : Below w.heap.size w w7 := Below.next hT6 hB7
  have hz7 := hb7.size
  (try simp only [World.size_alloc, World.size_drew] at hz7)
  have bx0_l7 : w.heap.size < w7.heap.size := Nat.lt_of_lt_of_le bx0_l6 hB7.size
  have bx0_0_7 : w7.cell? ⟨w.heap.size, 0, none⟩ = some (.slice f0.ch.A f0.ch.l.length f0.ch.c) := (hB7.cell (p := ⟨w.heap.size, 0, none⟩) bx0_l6).trans bx0_0_6
  have bx0_1_7 : w7.cell? ⟨w.heap.size, 1, none⟩ = some (.slice f0.st.A f0.st.l.length f0.st.c) := (hB7.cell (p := ⟨w.heap.size, 1, none⟩) bx0_l6).trans bx0_1_6
  have bx0_2_7 : w7.cell? ⟨w.heap.size, 2, none⟩ = some (.slice f0.no.A f0.no.l.length f0.no.c) := (hB7.cell (p := ⟨w.heap.size, 2, none⟩) bx0_l6).trans bx0_2_6
  have bX0_l7 : w4.heap.size < w7.heap.size := Nat.lt_of_lt_of_le bX0_l6 hB7.size
  have bX0_0_7 : w7.cell? ⟨w4.heap.size, 0, none⟩ = some (.slice t4.ch.A t4.ch.l.length t4.ch.c) := (hB7.cell (p := ⟨w4.heap.size, 0, none⟩) bX0_l6).trans bX0_0_6
  have bX0_1_7 : w7.cell? ⟨w4.heap.size, 1, none⟩ = some (.slice t4.st.A t4.st.l.length t4.st.c) := (hB7.cell (p := ⟨w4.heap.size, 1, none⟩) bX0_l6).trans bX0_1_6
  have bX0_2_7 : w7.cell? ⟨w4.heap.size, 2, none⟩ = some (.slice t4.no.A t4.no.l.length t4.no.c) := (hB7.cell (p := ⟨w4.heap.size, 2, none⟩) bX0_l6).trans bX0_2_6
  clear bx0_l6 bx0_0_6 bx0_1_6 bx0_2_6 bX0_l6 bX0_0_6 bX0_1_6 bX0_2_6
  have HF0_7 := Lib.hid (HF0_0.out.below hT7)
  clear HF0_6
  have TB_7 := Lib.hid (TB_0.out.below hT7)
  clear TB_6
  have X0_7 := Lib.hid (X0_6.out.next hB7)
  clear X0_6
  refine hK.out _ _ ?_ (fun hHeld2 => ?_)
  · (try dsimp only); exact SB.mk (Below.next hQ0 hB7)
  have hQ0 : Below w5.heap.size w5 w7 := Below.next hQ0 hB7
  clear hK K hHeld; have hHeld := hHeld2; clear hHeld2; (try simp only [Act.put, List.setIfInBounds_toArray, List.set_cons_zero, List.set_cons_succ])
  first | (refine take_on (i := 4) (v := ?_) rfl (by kernel_rfl) (by kernel_rfl) (by kernel_rfl) (fun _ _ _ h => h) rfl ?_ (by assumption) ?_; rotate_left; · (intro w' hSw; (try dsimp only at hSw); go_simp; (try with_reducible rfl))) | (refine take_off (i := 4) rfl (by kernel_rfl) (by kernel_rfl) (by kernel_rfl) (fun _ _ _ h => h) rfl (by assumption) ?_)
  (try simp only [Act.put, List.setIfInBounds_toArray, List.set_cons_zero, List.set_cons_succ])
  refine wpAnyH_done (by kernel_rfl) ?_ _
  clear hHeld
  clear hQ0
  go_wp2_with fail
  go_ret
  exact ⟨rfl, by go_grown⟩

theorem law_FileText {W : World} (f0 : Fl) (hg0 : FileGood W f0) (_ : World) (hL : laidMet Tryd.prog Rows.fnExactFileTextRow.laid W) (_ : W.ShapedOpen Tryd.prog) :
    Calls Tryd.prog 3 #[.agg #[.slice f0.ch.A f0.ch.l.length f0.ch.c, .slice f0.st.A f0.st.l.length f0.st.c, .slice f0.no.A f0.no.l.length f0.no.c]] W (Yes W) :=
  FileText_walk f0 hg0 (pow10_is (laidMet.tail (laidMet.tail hL)))
end Go.Proofs.YtmdmjnhebbhjbaaDoor
