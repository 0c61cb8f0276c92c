/-
  The law of SameFile returns true: program and reference say the same of two files.
-/
import Derived.Test.YtigingjpdlfanaaSameFile
namespace Go.Proofs.Ytigingjpdlfanaa
set_option linter.unusedSimpArgs false
set_option linter.unusedVariables false
set_option maxRecDepth 20000
open Go.RowKit
open Go.ChangeShapes Go.WideShapes Go.Deep Go.Joins

set_option maxHeartbeats 16000000 in
set_option maxRecDepth 100000 in
theorem SameFile_walk {w : World} (f0 : Fl) (hg0 : FileGood w f0) (f1 : Fl) (hg1 : FileGood w f1)   :
    Calls Try.prog 4 #[.agg #[.slice f0.ch.A f0.ch.l.length f0.ch.c, .slice f0.st.A f0.st.l.length f0.st.c, .slice f0.no.A f0.no.l.length f0.no.c], .agg #[.slice f1.ch.A f1.ch.l.length f1.ch.c, .slice f1.st.A f1.st.l.length f1.st.c, .slice f1.no.A f1.no.l.length f1.no.c]] w (Yes w) := by
  have HF0_0 := Lib.hid hg0.1
  have hcap0 := hg0.2
  clear hg0
  have HF1_0 := Lib.hid hg1.1
  have hcap1 := hg1.2
  clear hg1
  by_cases hle0 : flSz f0 ≤ 1048576
  rotate_left
  · go_enter Try.func4, Try.ntmps4
    go_wp2_with fail
    refine (szFile_no f0 1048576 _ (by first | exact HF0_0.out | exact HF0_0.out.alloc _ | exact (HF0_0.out.alloc _).alloc _ | exact ((HF0_0.out.alloc _).alloc _).alloc _ | exact HF0_0.out.drew | exact (HF0_0.out.drew).alloc _) hcap0 (by omega) hle0).mono ?_
    rintro e w1 ⟨rfl, hb1⟩
    have hB1 : Below w.heap.size w w1 := Below.next (by go_grown) hb1
    have hT1 : Below w.heap.size w w1 := hB1
    have hz1 := hb1.size
    (try simp only [World.size_alloc, World.size_drew] at hz1)
    have bx0_l1 : w.heap.size < w1.heap.size := by omega
    have bx0_0_1 : w1.cell? ⟨w.heap.size, 0, none⟩ = some (.slice f0.ch.A f0.ch.l.length f0.ch.c) := (hb1.cell (p := ⟨w.heap.size, 0, none⟩) (by (try simp only [World.size_alloc, World.size_drew]); omega)).trans (by go_simp)
    have bx0_1_1 : w1.cell? ⟨w.heap.size, 1, none⟩ = some (.slice f0.st.A f0.st.l.length f0.st.c) := (hb1.cell (p := ⟨w.heap.size, 1, none⟩) (by (try simp only [World.size_alloc, World.size_drew]); omega)).trans (by go_simp)
    have bx0_2_1 : w1.cell? ⟨w.heap.size, 2, none⟩ = some (.slice f0.no.A f0.no.l.length f0.no.c) := (hb1.cell (p := ⟨w.heap.size, 2, none⟩) (by (try simp only [World.size_alloc, World.size_drew]); omega)).trans (by go_simp)
    have bx1_l1 : w.heap.size + 1 < w1.heap.size := by omega
    have bx1_0_1 : w1.cell? ⟨w.heap.size + 1, 0, none⟩ = some (.slice f1.ch.A f1.ch.l.length f1.ch.c) := (hb1.cell (p := ⟨w.heap.size + 1, 0, none⟩) (by (try simp only [World.size_alloc, World.size_drew]); omega)).trans (by go_simp)
    have bx1_1_1 : w1.cell? ⟨w.heap.size + 1, 1, none⟩ = some (.slice f1.st.A f1.st.l.length f1.st.c) := (hb1.cell (p := ⟨w.heap.size + 1, 1, none⟩) (by (try simp only [World.size_alloc, World.size_drew]); omega)).trans (by go_simp)
    have bx1_2_1 : w1.cell? ⟨w.heap.size + 1, 2, none⟩ = some (.slice f1.no.A f1.no.l.length f1.no.c) := (hb1.cell (p := ⟨w.heap.size + 1, 2, none⟩) (by (try simp only [World.size_alloc, World.size_drew]); omega)).trans (by go_simp)
    have HF0_1 := Lib.hid (HF0_0.out.below hT1)
    have HF1_1 := Lib.hid (HF1_0.out.below hT1)
    go_wp2_with fail
    go_ret
    exact ⟨rfl, by go_grown⟩
  have HLE0 := Lib.hid hle0
  obtain ⟨r0, hr0⟩ : ∃ r, 1048576 - flSz f0 = r := ⟨_, rfl⟩
  have hrb0 : r0 ≤ 1048576 := by omega
  have HR0 := Lib.hid hr0
  obtain ⟨hsz0, htx0, _⟩ := flSz_pl (f := f0) (by omega)
  obtain ⟨p0, hp0⟩ : ∃ p, filePl f0 = p := ⟨_, rfl⟩
  rw [hp0] at hsz0 htx0
  have HSZp0 := Lib.hid hsz0
  have HTXp0 := Lib.hid htx0
  have HP0 := Lib.hid hp0
  clear hsz0 htx0 hp0 hle0
  obtain ⟨mmp0, hmm0⟩ : ∃ mm, 1 + cntPl p0 = mm := ⟨_, rfl⟩
  have hmb0 : mmp0 ≤ 33554433 := by have := HSZp0.out.cnt; omega
  have HMMp0 := Lib.hid hmm0
  clear hmm0
  by_cases hle1 : flSz f1 ≤ (1048576 - flSz f0)
  rotate_left
  · go_enter Try.func4, Try.ntmps4
    go_wp2_with fail
    refine (szFile_ok f0 1048576 _ (by first | exact HF0_0.out | exact HF0_0.out.alloc _ | exact (HF0_0.out.alloc _).alloc _ | exact ((HF0_0.out.alloc _).alloc _).alloc _ | exact HF0_0.out.drew | exact (HF0_0.out.drew).alloc _) hcap0 (by omega) HLE0.out hr0).mono ?_
    rintro e w1 ⟨rfl, hb1⟩
    have hB1 : Below w.heap.size w w1 := Below.next (by go_grown) hb1
    have hT1 : Below w.heap.size w w1 := hB1
    have hz1 := hb1.size
    (try simp only [World.size_alloc, World.size_drew] at hz1)
    have bx0_l1 : w.heap.size < w1.heap.size := by omega
    have bx0_0_1 : w1.cell? ⟨w.heap.size, 0, none⟩ = some (.slice f0.ch.A f0.ch.l.length f0.ch.c) := (hb1.cell (p := ⟨w.heap.size, 0, none⟩) (by (try simp only [World.size_alloc, World.size_drew]); omega)).trans (by go_simp)
    have bx0_1_1 : w1.cell? ⟨w.heap.size, 1, none⟩ = some (.slice f0.st.A f0.st.l.length f0.st.c) := (hb1.cell (p := ⟨w.heap.size, 1, none⟩) (by (try simp only [World.size_alloc, World.size_drew]); omega)).trans (by go_simp)
    have bx0_2_1 : w1.cell? ⟨w.heap.size, 2, none⟩ = some (.slice f0.no.A f0.no.l.length f0.no.c) := (hb1.cell (p := ⟨w.heap.size, 2, none⟩) (by (try simp only [World.size_alloc, World.size_drew]); omega)).trans (by go_simp)
    have bx1_l1 : w.heap.size + 1 < w1.heap.size := by omega
    have bx1_0_1 : w1.cell? ⟨w.heap.size + 1, 0, none⟩ = some (.slice f1.ch.A f1.ch.l.length f1.ch.c) := (hb1.cell (p := ⟨w.heap.size + 1, 0, none⟩) (by (try simp only [World.size_alloc, World.size_drew]); omega)).trans (by go_simp)
    have bx1_1_1 : w1.cell? ⟨w.heap.size + 1, 1, none⟩ = some (.slice f1.st.A f1.st.l.length f1.st.c) := (hb1.cell (p := ⟨w.heap.size + 1, 1, none⟩) (by (try simp only [World.size_alloc, World.size_drew]); omega)).trans (by go_simp)
    have bx1_2_1 : w1.cell? ⟨w.heap.size + 1, 2, none⟩ = some (.slice f1.no.A f1.no.l.length f1.no.c) := (hb1.cell (p := ⟨w.heap.size + 1, 2, none⟩) (by (try simp only [World.size_alloc, World.size_drew]); omega)).trans (by go_simp)
    have HF0_1 := Lib.hid (HF0_0.out.below hT1)
    have HF1_1 := Lib.hid (HF1_0.out.below hT1)
    have hR0 := hr0
    go_wp2_with fail
    refine (szFile_no f1 r0 _ (by first | exact HF1_1.out | exact HF1_1.out.alloc _ | exact (HF1_1.out.alloc _).alloc _ | exact ((HF1_1.out.alloc _).alloc _).alloc _ | exact HF1_1.out.drew | exact (HF1_1.out.drew).alloc _) hcap1 (by omega) (by have := HR0.out; omega)).mono ?_
    rintro e w2 ⟨rfl, hb2⟩
    have hB2 : Below w1.heap.size w1 w2 := Below.next (by go_grown) hb2
    have hT2 : Below w.heap.size w w2 := Below.next hT1 hB2
    have hz2 := hb2.size
    (try simp only [World.size_alloc, World.size_drew] at hz2)
    have bx0_l2 : w.heap.size < w2.heap.size := Nat.lt_of_lt_of_le bx0_l1 hB2.size
    have bx0_0_2 : w2.cell? ⟨w.heap.size, 0, none⟩ = some (.slice f0.ch.A f0.ch.l.length f0.ch.c) := (hB2.cell (p := ⟨w.heap.size, 0, none⟩) bx0_l1).trans bx0_0_1
    have bx0_1_2 : w2.cell? ⟨w.heap.size, 1, none⟩ = some (.slice f0.st.A f0.st.l.length f0.st.c) := (hB2.cell (p := ⟨w.heap.size, 1, none⟩) bx0_l1).trans bx0_1_1
    have bx0_2_2 : w2.cell? ⟨w.heap.size, 2, none⟩ = some (.slice f0.no.A f0.no.l.length f0.no.c) := (hB2.cell (p := ⟨w.heap.size, 2, none⟩) bx0_l1).trans bx0_2_1
    have bx1_l2 : w.heap.size + 1 < w2.heap.size := Nat.lt_of_lt_of_le bx1_l1 hB2.size
    have bx1_0_2 : w2.cell? ⟨w.heap.size + 1, 0, none⟩ = some (.slice f1.ch.A f1.ch.l.length f1.ch.c) := (hB2.cell (p := ⟨w.heap.size + 1, 0, none⟩) bx1_l1).trans bx1_0_1
    have bx1_1_2 : w2.cell? ⟨w.heap.size + 1, 1, none⟩ = some (.slice f1.st.A f1.st.l.length f1.st.c) := (hB2.cell (p := ⟨w.heap.size + 1, 1, none⟩) bx1_l1).trans bx1_1_1
    have bx1_2_2 : w2.cell? ⟨w.heap.size + 1, 2, none⟩ = some (.slice f1.no.A f1.no.l.length f1.no.c) := (hB2.cell (p := ⟨w.heap.size + 1, 2, none⟩) bx1_l1).trans bx1_2_1
    clear bx0_l1 bx0_0_1 bx0_1_1 bx0_2_1 bx1_l1 bx1_0_1 bx1_1_1 bx1_2_1
    have HF0_2 := Lib.hid (HF0_0.out.below hT2)
    clear HF0_1
    have HF1_2 := Lib.hid (HF1_0.out.below hT2)
    clear HF1_1
    go_wp2_with fail
    go_ret
    exact ⟨rfl, by go_grown⟩
  have HLE1 := Lib.hid hle1
  obtain ⟨r1, hr1⟩ : ∃ r, r0 - flSz f1 = r := ⟨_, rfl⟩
  have hrb1 : r1 ≤ 1048576 := by omega
  have HR1 := Lib.hid hr1
  obtain ⟨hsz1, htx1, _⟩ := flSz_pl (f := f1) (by omega)
  obtain ⟨p1, hp1⟩ : ∃ p, filePl f1 = p := ⟨_, rfl⟩
  rw [hp1] at hsz1 htx1
  have HSZp1 := Lib.hid hsz1
  have HTXp1 := Lib.hid htx1
  have HP1 := Lib.hid hp1
  clear hsz1 htx1 hp1 hle1
  obtain ⟨mmp1, hmm1⟩ : ∃ mm, 1 + cntPl p1 = mm := ⟨_, rfl⟩
  have hmb1 : mmp1 ≤ 33554433 := by have := HSZp1.out.cnt; omega
  have HMMp1 := Lib.hid hmm1
  clear hmm1
  obtain ⟨v, hv⟩ := bool_of (p0 = p1)
  have HV : Is v (p0 = p1) := hv
  clear hv
  go_enter Try.func4, Try.ntmps4
  go_wp2_with fail
  refine (szFile_ok f0 1048576 _ (by first | exact HF0_0.out | exact HF0_0.out.alloc _ | exact (HF0_0.out.alloc _).alloc _ | exact ((HF0_0.out.alloc _).alloc _).alloc _ | exact HF0_0.out.drew | exact (HF0_0.out.drew).alloc _) hcap0 (by omega) HLE0.out HR0.out).mono ?_
  rintro e w1 ⟨rfl, hb1⟩
  have hB1 : Below w.heap.size w w1 := Below.next (by go_grown) hb1
  have hT1 : Below w.heap.size w w1 := hB1
  have hz1 := hb1.size
  (try simp only [World.size_alloc, World.size_drew] at hz1)
  have bx0_l1 : w.heap.size < w1.heap.size := by omega
  have bx0_0_1 : w1.cell? ⟨w.heap.size, 0, none⟩ = some (.slice f0.ch.A f0.ch.l.length f0.ch.c) := (hb1.cell (p := ⟨w.heap.size, 0, none⟩) (by (try simp only [World.size_alloc, World.size_drew]); omega)).trans (by go_simp)
  have bx0_1_1 : w1.cell? ⟨w.heap.size, 1, none⟩ = some (.slice f0.st.A f0.st.l.length f0.st.c) := (hb1.cell (p := ⟨w.heap.size, 1, none⟩) (by (try simp only [World.size_alloc, World.size_drew]); omega)).trans (by go_simp)
  have bx0_2_1 : w1.cell? ⟨w.heap.size, 2, none⟩ = some (.slice f0.no.A f0.no.l.length f0.no.c) := (hb1.cell (p := ⟨w.heap.size, 2, none⟩) (by (try simp only [World.size_alloc, World.size_drew]); omega)).trans (by go_simp)
  have bx1_l1 : w.heap.size + 1 < w1.heap.size := by omega
  have bx1_0_1 : w1.cell? ⟨w.heap.size + 1, 0, none⟩ = some (.slice f1.ch.A f1.ch.l.length f1.ch.c) := (hb1.cell (p := ⟨w.heap.size + 1, 0, none⟩) (by (try simp only [World.size_alloc, World.size_drew]); omega)).trans (by go_simp)
  have bx1_1_1 : w1.cell? ⟨w.heap.size + 1, 1, none⟩ = some (.slice f1.st.A f1.st.l.length f1.st.c) := (hb1.cell (p := ⟨w.heap.size + 1, 1, none⟩) (by (try simp only [World.size_alloc, World.size_drew]); omega)).trans (by go_simp)
  have bx1_2_1 : w1.cell? ⟨w.heap.size + 1, 2, none⟩ = some (.slice f1.no.A f1.no.l.length f1.no.c) := (hb1.cell (p := ⟨w.heap.size + 1, 2, none⟩) (by (try simp only [World.size_alloc, World.size_drew]); omega)).trans (by go_simp)
  have HF0_1 := Lib.hid (HF0_0.out.below hT1)
  have HF1_1 := Lib.hid (HF1_0.out.below hT1)
  go_wp2_with fail
  refine (szFile_ok f1 r0 _ (by first | exact HF1_1.out | exact HF1_1.out.alloc _ | exact (HF1_1.out.alloc _).alloc _ | exact ((HF1_1.out.alloc _).alloc _).alloc _ | exact HF1_1.out.drew | exact (HF1_1.out.drew).alloc _) hcap1 (by omega) (by have := HLE1.out; have := HR0.out; omega) HR1.out).mono ?_
  rintro e w2 ⟨rfl, hb2⟩
  have hB2 : Below w1.heap.size w1 w2 := Below.next (by go_grown) hb2
  have hT2 : Below w.heap.size w w2 := Below.next hT1 hB2
  have hz2 := hb2.size
  (try simp only [World.size_alloc, World.size_drew] at hz2)
  have bx0_l2 : w.heap.size < w2.heap.size := Nat.lt_of_lt_of_le bx0_l1 hB2.size
  have bx0_0_2 : w2.cell? ⟨w.heap.size, 0, none⟩ = some (.slice f0.ch.A f0.ch.l.length f0.ch.c) := (hB2.cell (p := ⟨w.heap.size, 0, none⟩) bx0_l1).trans bx0_0_1
  have bx0_1_2 : w2.cell? ⟨w.heap.size, 1, none⟩ = some (.slice f0.st.A f0.st.l.length f0.st.c) := (hB2.cell (p := ⟨w.heap.size, 1, none⟩) bx0_l1).trans bx0_1_1
  have bx0_2_2 : w2.cell? ⟨w.heap.size, 2, none⟩ = some (.slice f0.no.A f0.no.l.length f0.no.c) := (hB2.cell (p := ⟨w.heap.size, 2, none⟩) bx0_l1).trans bx0_2_1
  have bx1_l2 : w.heap.size + 1 < w2.heap.size := Nat.lt_of_lt_of_le bx1_l1 hB2.size
  have bx1_0_2 : w2.cell? ⟨w.heap.size + 1, 0, none⟩ = some (.slice f1.ch.A f1.ch.l.length f1.ch.c) := (hB2.cell (p := ⟨w.heap.size + 1, 0, none⟩) bx1_l1).trans bx1_0_1
  have bx1_1_2 : w2.cell? ⟨w.heap.size + 1, 1, none⟩ = some (.slice f1.st.A f1.st.l.length f1.st.c) := (hB2.cell (p := ⟨w.heap.size + 1, 1, none⟩) bx1_l1).trans bx1_1_1
  have bx1_2_2 : w2.cell? ⟨w.heap.size + 1, 2, none⟩ = some (.slice f1.no.A f1.no.l.length f1.no.c) := (hB2.cell (p := ⟨w.heap.size + 1, 2, none⟩) bx1_l1).trans bx1_2_1
  clear bx0_l1 bx0_0_1 bx0_1_1 bx0_2_1 bx1_l1 bx1_0_1 bx1_1_1 bx1_2_1
  have HF0_2 := Lib.hid (HF0_0.out.below hT2)
  clear HF0_1
  have HF1_2 := Lib.hid (HF1_0.out.below hT2)
  clear HF1_1
  go_wp2_with fail
  refine wp_region_held_drew (S := (fun w' => (∀ kb ko, kb < w2.heap.size → w'.cell? ⟨kb, ko, none⟩ = w2.cell? ⟨kb, ko, none⟩) ∧ w2.heap.size ≤ w'.heap.size ∧ Below w2.heap.size w2 w')) (by kernel_rfl) ?_ (fun hHeld => ?_)
  · (try dsimp only); (first | exact SB.mk hkB | exact SB.mk ((Below.refl _ _).drew) | (refine SB.mk ?_; go_grown; done) | (go_split_ands; refine SB.mk (Below.drew ?_); assumption) | (go_split_ands; refine SB.mk ?_; go_grown; done))
  first | (refine take_on (i := 0) (v := ?_) rfl (by kernel_rfl) (by kernel_rfl) (by kernel_rfl) (fun _ _ _ h => h) rfl ?_ (by assumption) ?_; rotate_left; · (intro w' hSw; (try dsimp only at hSw); go_simp; (try with_reducible rfl))) | (refine take_off (i := 0) rfl (by kernel_rfl) (by kernel_rfl) (by kernel_rfl) (fun _ _ _ h => h) rfl (by assumption) ?_)
  (try simp only [Act.put, List.setIfInBounds_toArray, List.set_cons_zero, List.set_cons_succ])
  first | (refine take_on (i := 2) (v := ?_) rfl (by kernel_rfl) (by kernel_rfl) (by kernel_rfl) (fun _ _ _ h => h) rfl ?_ (by assumption) ?_; rotate_left; · (intro w' hSw; (try dsimp only at hSw); go_simp; (try with_reducible rfl))) | (refine take_off (i := 2) rfl (by kernel_rfl) (by kernel_rfl) (by kernel_rfl) (fun _ _ _ h => h) rfl (by assumption) ?_)
  (try simp only [Act.put, List.setIfInBounds_toArray, List.set_cons_zero, List.set_cons_succ])
  refine wpAnyH_ready (rs := [1]) (by kernel_rfl) (by simp) ?_
  refine AllReadyH.cons rfl (fun K hK => ?_) AllReadyH.nil
  rw [if_pos (by rfl)]
  go_simp
  go_at_call 22
  refine (toFile_L f0 p0 _ (by first | exact HF0_2.out | exact HF0_2.out.alloc _ | exact (HF0_2.out.alloc _).alloc _ | exact ((HF0_2.out.alloc _).alloc _).alloc _ | exact HF0_2.out.drew | exact (HF0_2.out.drew).alloc _) HP0.out HSZp0.out).mono ?_
  rintro e w3 ⟨t3, rfl, hp3, ho3, hb3⟩
  have hB3 : Below w2.heap.size w2 w3 := Below.next (by go_grown) hb3
  have hT3 : Below w.heap.size w w3 := Below.next hT2 hB3
  have hz3 := hb3.size
  (try simp only [World.size_alloc, World.size_drew] at hz3)
  have bx0_l3 : w.heap.size < w3.heap.size := Nat.lt_of_lt_of_le bx0_l2 hB3.size
  have bx0_0_3 : w3.cell? ⟨w.heap.size, 0, none⟩ = some (.slice f0.ch.A f0.ch.l.length f0.ch.c) := (hB3.cell (p := ⟨w.heap.size, 0, none⟩) bx0_l2).trans bx0_0_2
  have bx0_1_3 : w3.cell? ⟨w.heap.size, 1, none⟩ = some (.slice f0.st.A f0.st.l.length f0.st.c) := (hB3.cell (p := ⟨w.heap.size, 1, none⟩) bx0_l2).trans bx0_1_2
  have bx0_2_3 : w3.cell? ⟨w.heap.size, 2, none⟩ = some (.slice f0.no.A f0.no.l.length f0.no.c) := (hB3.cell (p := ⟨w.heap.size, 2, none⟩) bx0_l2).trans bx0_2_2
  have bx1_l3 : w.heap.size + 1 < w3.heap.size := Nat.lt_of_lt_of_le bx1_l2 hB3.size
  have bx1_0_3 : w3.cell? ⟨w.heap.size + 1, 0, none⟩ = some (.slice f1.ch.A f1.ch.l.length f1.ch.c) := (hB3.cell (p := ⟨w.heap.size + 1, 0, none⟩) bx1_l2).trans bx1_0_2
  have bx1_1_3 : w3.cell? ⟨w.heap.size + 1, 1, none⟩ = some (.slice f1.st.A f1.st.l.length f1.st.c) := (hB3.cell (p := ⟨w.heap.size + 1, 1, none⟩) bx1_l2).trans bx1_1_2
  have bx1_2_3 : w3.cell? ⟨w.heap.size + 1, 2, none⟩ = some (.slice f1.no.A f1.no.l.length f1.no.c) := (hB3.cell (p := ⟨w.heap.size + 1, 2, none⟩) bx1_l2).trans bx1_2_2
  clear bx0_l2 bx0_0_2 bx0_1_2 bx0_2_2 bx1_l2 bx1_0_2 bx1_1_2 bx1_2_2
  have HF0_3 := Lib.hid (HF0_0.out.below hT3)
  clear HF0_2
  have HF1_3 := Lib.hid (HF1_0.out.below hT3)
  clear HF1_2
  refine hK.out _ _ ?_ (fun hHeld2 => ?_)
  · (try dsimp only); exact SB.mk (Below.next (by go_grown) hb3)
  have hQ0 : Below w2.heap.size w2 w3 := Below.next (by go_grown) hb3
  clear hK K hHeld; have hHeld := hHeld2; clear hHeld2; (try simp only [Act.put, List.setIfInBounds_toArray, List.set_cons_zero, List.set_cons_succ])
  have XA_3 : Hid (FileMine w3 (w2.heap.size) (w3.heap.size) t3) := by have h := ho3; (try simp only [World.size_alloc, World.size_drew] at h); exact h
  have XA_p : Hid (filePl t3 = p0) := hp3
  clear ho3 hp3
  refine wpAnyH_ready (rs := [3]) (by kernel_rfl) (by simp) ?_
  refine AllReadyH.cons rfl (fun K hK => ?_) AllReadyH.nil
  rw [if_pos (by rfl)]
  go_simp
  go_at_call 22
  refine (toFile_L f1 p1 _ (by first | exact HF1_3.out | exact HF1_3.out.alloc _ | exact (HF1_3.out.alloc _).alloc _ | exact ((HF1_3.out.alloc _).alloc _).alloc _ | exact HF1_3.out.drew | exact (HF1_3.out.drew).alloc _) HP1.out HSZp1.out).mono ?_
  rintro e w4 ⟨t4, rfl, hp4, ho4, hb4⟩
  have hB4 : Below w3.heap.size w3 w4 := Below.next (by go_grown) hb4
  have hT4 : Below w.heap.size w w4 := Below.next hT3 hB4
  have hz4 := hb4.size
  (try simp only [World.size_alloc, World.size_drew] at hz4)
  have bx0_l4 : w.heap.size < w4.heap.size := Nat.lt_of_lt_of_le bx0_l3 hB4.size
  have bx0_0_4 : w4.cell? ⟨w.heap.size, 0, none⟩ = some (.slice f0.ch.A f0.ch.l.length f0.ch.c) := (hB4.cell (p := ⟨w.heap.size, 0, none⟩) bx0_l3).trans bx0_0_3
  have bx0_1_4 : w4.cell? ⟨w.heap.size, 1, none⟩ = some (.slice f0.st.A f0.st.l.length f0.st.c) := (hB4.cell (p := ⟨w.heap.size, 1, none⟩) bx0_l3).trans bx0_1_3
  have bx0_2_4 : w4.cell? ⟨w.heap.size, 2, none⟩ = some (.slice f0.no.A f0.no.l.length f0.no.c) := (hB4.cell (p := ⟨w.heap.size, 2, none⟩) bx0_l3).trans bx0_2_3
  have bx1_l4 : w.heap.size + 1 < w4.heap.size := Nat.lt_of_lt_of_le bx1_l3 hB4.size
  have bx1_0_4 : w4.cell? ⟨w.heap.size + 1, 0, none⟩ = some (.slice f1.ch.A f1.ch.l.length f1.ch.c) := (hB4.cell (p := ⟨w.heap.size + 1, 0, none⟩) bx1_l3).trans bx1_0_3
  have bx1_1_4 : w4.cell? ⟨w.heap.size + 1, 1, none⟩ = some (.slice f1.st.A f1.st.l.length f1.st.c) := (hB4.cell (p := ⟨w.heap.size + 1, 1, none⟩) bx1_l3).trans bx1_1_3
  have bx1_2_4 : w4.cell? ⟨w.heap.size + 1, 2, none⟩ = some (.slice f1.no.A f1.no.l.length f1.no.c) := (hB4.cell (p := ⟨w.heap.size + 1, 2, none⟩) bx1_l3).trans bx1_2_3
  clear bx0_l3 bx0_0_3 bx0_1_3 bx0_2_3 bx1_l3 bx1_0_3 bx1_1_3 bx1_2_3
  have HF0_4 := Lib.hid (HF0_0.out.below hT4)
  clear HF0_3
  have HF1_4 := Lib.hid (HF1_0.out.below hT4)
  clear HF1_3
  have XA_4 := Lib.hid (XA_3.out.next hB4)
  clear XA_3
  refine hK.out _ _ ?_ (fun hHeld2 => ?_)
  · (try dsimp only); exact SB.mk (Below.next hQ0 hB4)
  have hQ0 : Below w2.heap.size w2 w4 := Below.next hQ0 hB4
  clear hK K hHeld; have hHeld := hHeld2; clear hHeld2; (try simp only [Act.put, List.setIfInBounds_toArray, List.set_cons_zero, List.set_cons_succ])
  have XB_4 : Hid (FileMine w4 (w3.heap.size) (w4.heap.size) t4) := by have h := ho4; (try simp only [World.size_alloc, World.size_drew] at h); exact h
  have XB_p : Hid (filePl t4 = p1) := hp4
  clear ho4 hp4
  refine wpAnyH_ready (rs := [4]) (by kernel_rfl) (by simp) ?_
  refine AllReadyH.cons rfl (fun K hK => ?_) AllReadyH.nil
  rw [if_pos (by rfl)]
  go_simp
  go_at_call 21
  refine (sSameFile_L t3 t4 p0 p1 v _ HV (by first | exact XA_4.out.rd | exact XA_4.out.rd.alloc _ | exact (XA_4.out.rd.alloc _).alloc _ | exact ((XA_4.out.rd.alloc _).alloc _).alloc _ | exact (((XA_4.out.rd.alloc _).alloc _).alloc _).alloc _ | exact XA_4.out.rd.drew | exact (XA_4.out.rd.drew).alloc _) (by first | exact XB_4.out.rd | exact XB_4.out.rd.alloc _ | exact (XB_4.out.rd.alloc _).alloc _ | exact ((XB_4.out.rd.alloc _).alloc _).alloc _ | exact (((XB_4.out.rd.alloc _).alloc _).alloc _).alloc _ | exact XB_4.out.rd.drew | exact (XB_4.out.rd.drew).alloc _) XA_p.out XB_p.out HSZp0.out HSZp1.out).mono ?_
  rintro e w5 ⟨rfl, hb5⟩
  have hB5 : Below w4.heap.size w4 w5 := Below.next (by go_grown) hb5
  have hT5 : Below w.heap.size w w5 := Below.next hT4 hB5
  have hz5 := hb5.size
  (try simp only [World.size_alloc, World.size_drew] at hz5)
  have bx0_l5 : w.heap.size < w5.heap.size := Nat.lt_of_lt_of_le bx0_l4 hB5.size
  have bx0_0_5 : w5.cell? ⟨w.heap.size, 0, none⟩ = some (.slice f0.ch.A f0.ch.l.length f0.ch.c) := (hB5.cell (p := ⟨w.heap.size, 0, none⟩) bx0_l4).trans bx0_0_4
  have bx0_1_5 : w5.cell? ⟨w.heap.size, 1, none⟩ = some (.slice f0.st.A f0.st.l.length f0.st.c) := (hB5.cell (p := ⟨w.heap.size, 1, none⟩) bx0_l4).trans bx0_1_4
  have bx0_2_5 : w5.cell? ⟨w.heap.size, 2, none⟩ = some (.slice f0.no.A f0.no.l.length f0.no.c) := (hB5.cell (p := ⟨w.heap.size, 2, none⟩) bx0_l4).trans bx0_2_4
  have bx1_l5 : w.heap.size + 1 < w5.heap.size := Nat.lt_of_lt_of_le bx1_l4 hB5.size
  have bx1_0_5 : w5.cell? ⟨w.heap.size + 1, 0, none⟩ = some (.slice f1.ch.A f1.ch.l.length f1.ch.c) := (hB5.cell (p := ⟨w.heap.size + 1, 0, none⟩) bx1_l4).trans bx1_0_4
  have bx1_1_5 : w5.cell? ⟨w.heap.size + 1, 1, none⟩ = some (.slice f1.st.A f1.st.l.length f1.st.c) := (hB5.cell (p := ⟨w.heap.size + 1, 1, none⟩) bx1_l4).trans bx1_1_4
  have bx1_2_5 : w5.cell? ⟨w.heap.size + 1, 2, none⟩ = some (.slice f1.no.A f1.no.l.length f1.no.c) := (hB5.cell (p := ⟨w.heap.size + 1, 2, none⟩) bx1_l4).trans bx1_2_4
  clear bx0_l4 bx0_0_4 bx0_1_4 bx0_2_4 bx1_l4 bx1_0_4 bx1_1_4 bx1_2_4
  have HF0_5 := Lib.hid (HF0_0.out.below hT5)
  clear HF0_4
  have HF1_5 := Lib.hid (HF1_0.out.below hT5)
  clear HF1_4
  have XA_5 := Lib.hid (XA_4.out.next hB5)
  have XB_5 := Lib.hid (XB_4.out.next hB5)
  clear XA_4 XB_4
  refine hK.out _ _ ?_ (fun hHeld2 => ?_)
  · (try dsimp only); exact SB.mk (Below.next hQ0 hB5)
  have hQ0 : Below w2.heap.size w2 w5 := Below.next hQ0 hB5
  clear hK K hHeld; have hHeld := hHeld2; clear hHeld2; (try simp only [Act.put, List.setIfInBounds_toArray, List.set_cons_zero, List.set_cons_succ])
  first | (refine take_on (i := 5) (v := ?_) rfl (by kernel_rfl) (by kernel_rfl) (by kernel_rfl) (fun _ _ _ h => h) rfl ?_ (by assumption) ?_; rotate_left; · (intro w' hSw; (try dsimp only at hSw); go_simp; (try with_reducible rfl))) | (refine take_off (i := 5) rfl (by kernel_rfl) (by kernel_rfl) (by kernel_rfl) (fun _ _ _ h => h) rfl (by assumption) ?_)
  (try simp only [Act.put, List.setIfInBounds_toArray, List.set_cons_zero, List.set_cons_succ])
  refine wpAnyH_done (by kernel_rfl) ?_ _
  clear hHeld
  clear hQ0
  go_wp2_with fail
  refine (toFile_L f0 p0 _ (by first | exact HF0_5.out | exact HF0_5.out.alloc _ | exact (HF0_5.out.alloc _).alloc _ | exact ((HF0_5.out.alloc _).alloc _).alloc _ | exact HF0_5.out.drew | exact (HF0_5.out.drew).alloc _) HP0.out HSZp0.out).mono ?_
  rintro e w6 ⟨t6, rfl, hp6, ho6, hb6⟩
  have hB6 : Below w5.heap.size w5 w6 := Below.next (by go_grown) hb6
  have hT6 : Below w.heap.size w w6 := Below.next hT5 hB6
  have hz6 := hb6.size
  (try simp only [World.size_alloc, World.size_drew] at hz6)
  have bx0_l6 : w.heap.size < w6.heap.size := Nat.lt_of_lt_of_le bx0_l5 hB6.size
  have bx0_0_6 : w6.cell? ⟨w.heap.size, 0, none⟩ = some (.slice f0.ch.A f0.ch.l.length f0.ch.c) := (hB6.cell (p := ⟨w.heap.size, 0, none⟩) bx0_l5).trans bx0_0_5
  have bx0_1_6 : w6.cell? ⟨w.heap.size, 1, none⟩ = some (.slice f0.st.A f0.st.l.length f0.st.c) := (hB6.cell (p := ⟨w.heap.size, 1, none⟩) bx0_l5).trans bx0_1_5
  have bx0_2_6 : w6.cell? ⟨w.heap.size, 2, none⟩ = some (.slice f0.no.A f0.no.l.length f0.no.c) := (hB6.cell (p := ⟨w.heap.size, 2, none⟩) bx0_l5).trans bx0_2_5
  have bx1_l6 : w.heap.size + 1 < w6.heap.size := Nat.lt_of_lt_of_le bx1_l5 hB6.size
  have bx1_0_6 : w6.cell? ⟨w.heap.size + 1, 0, none⟩ = some (.slice f1.ch.A f1.ch.l.length f1.ch.c) := (hB6.cell (p := ⟨w.heap.size + 1, 0, none⟩) bx1_l5).trans bx1_0_5
  have bx1_1_6 : w6.cell? ⟨w.heap.size + 1, 1, none⟩ = some (.slice f1.st.A f1.st.l.length f1.st.c) := (hB6.cell (p := ⟨w.heap.size + 1, 1, none⟩) bx1_l5).trans bx1_1_5
  have bx1_2_6 : w6.cell? ⟨w.heap.size + 1, 2, none⟩ = some (.slice f1.no.A f1.no.l.length f1.no.c) := (hB6.cell (p := ⟨w.heap.size + 1, 2, none⟩) bx1_l5).trans bx1_2_5
  clear bx0_l5 bx0_0_5 bx0_1_5 bx0_2_5 bx1_l5 bx1_0_5 bx1_1_5 bx1_2_5
  have HF0_6 := Lib.hid (HF0_0.out.below hT6)
  clear HF0_5
  have HF1_6 := Lib.hid (HF1_0.out.below hT6)
  clear HF1_5
  have X0_6 : Hid (FileMine w6 (w5.heap.size) (w6.heap.size) t6) := by have h := ho6; (try simp only [World.size_alloc, World.size_drew] at h); exact h
  have X0_p : Hid (filePl t6 = p0) := hp6
  clear ho6 hp6
  go_wp2_with fail
  refine (toFile_L f1 p1 _ (by first | exact HF1_6.out | exact HF1_6.out.alloc _ | exact (HF1_6.out.alloc _).alloc _ | exact ((HF1_6.out.alloc _).alloc _).alloc _ | exact HF1_6.out.drew | exact (HF1_6.out.drew).alloc _) HP1.out HSZp1.out).mono ?_
  rintro e w7 ⟨t7, rfl, hp7, ho7, hb7⟩
  have hB7 : Below w6.heap.size w6 w7 := Below.next (by go_grown) hb7
  have hT7 : Below w.heap.size w w7 := Below.next hT6 hB7
  have hz7 := hb7.size
  (try simp only [World.size_alloc, World.size_drew] at hz7)
  have bx0_l7 : w.heap.size < w7.heap.size := Nat.lt_of_lt_of_le bx0_l6 hB7.size
  have bx0_0_7 : w7.cell? ⟨w.heap.size, 0, none⟩ = some (.slice f0.ch.A f0.ch.l.length f0.ch.c) := (hB7.cell (p := ⟨w.heap.size, 0, none⟩) bx0_l6).trans bx0_0_6
  have bx0_1_7 : w7.cell? ⟨w.heap.size, 1, none⟩ = some (.slice f0.st.A f0.st.l.length f0.st.c) := (hB7.cell (p := ⟨w.heap.size, 1, none⟩) bx0_l6).trans bx0_1_6
  have bx0_2_7 : w7.cell? ⟨w.heap.size, 2, none⟩ = some (.slice f0.no.A f0.no.l.length f0.no.c) := (hB7.cell (p := ⟨w.heap.size, 2, none⟩) bx0_l6).trans bx0_2_6
  have bx1_l7 : w.heap.size + 1 < w7.heap.size := Nat.lt_of_lt_of_le bx1_l6 hB7.size
  have bx1_0_7 : w7.cell? ⟨w.heap.size + 1, 0, none⟩ = some (.slice f1.ch.A f1.ch.l.length f1.ch.c) := (hB7.cell (p := ⟨w.heap.size + 1, 0, none⟩) bx1_l6).trans bx1_0_6
  have bx1_1_7 : w7.cell? ⟨w.heap.size + 1, 1, none⟩ = some (.slice f1.st.A f1.st.l.length f1.st.c) := (hB7.cell (p := ⟨w.heap.size + 1, 1, none⟩) bx1_l6).trans bx1_1_6
  have bx1_2_7 : w7.cell? ⟨w.heap.size + 1, 2, none⟩ = some (.slice f1.no.A f1.no.l.length f1.no.c) := (hB7.cell (p := ⟨w.heap.size + 1, 2, none⟩) bx1_l6).trans bx1_2_6
  have bX0_l7 : w6.heap.size < w7.heap.size := by omega
  have bX0_0_7 : w7.cell? ⟨w6.heap.size, 0, none⟩ = some (.slice t6.ch.A t6.ch.l.length t6.ch.c) := (hb7.cell (p := ⟨w6.heap.size, 0, none⟩) (by (try simp only [World.size_alloc, World.size_drew]); omega)).trans (by go_simp)
  have bX0_1_7 : w7.cell? ⟨w6.heap.size, 1, none⟩ = some (.slice t6.st.A t6.st.l.length t6.st.c) := (hb7.cell (p := ⟨w6.heap.size, 1, none⟩) (by (try simp only [World.size_alloc, World.size_drew]); omega)).trans (by go_simp)
  have bX0_2_7 : w7.cell? ⟨w6.heap.size, 2, none⟩ = some (.slice t6.no.A t6.no.l.length t6.no.c) := (hb7.cell (p := ⟨w6.heap.size, 2, none⟩) (by (try simp only [World.size_alloc, World.size_drew]); omega)).trans (by go_simp)
  clear bx0_l6 bx0_0_6 bx0_1_6 bx0_2_6 bx1_l6 bx1_0_6 bx1_1_6 bx1_2_6
  have HF0_7 := Lib.hid (HF0_0.out.below hT7)
  clear HF0_6
  have HF1_7 := Lib.hid (HF1_0.out.below hT7)
  clear HF1_6
  have X0_7 := Lib.hid (X0_6.out.next hB7)
  clear X0_6
  have X1_7 : Hid (FileMine w7 (w6.heap.size + 1) (w7.heap.size) t7) := by have h := ho7; (try simp only [World.size_alloc, World.size_drew] at h); exact h
  have X1_p : Hid (filePl t7 = p1) := hp7
  clear ho7 hp7
  go_wp2_with fail
  refine (iSameFile_L t6 t7 p0 p1 v _ HV (by first | exact X0_7.out.rd | exact X0_7.out.rd.alloc _ | exact (X0_7.out.rd.alloc _).alloc _ | exact ((X0_7.out.rd.alloc _).alloc _).alloc _ | exact (((X0_7.out.rd.alloc _).alloc _).alloc _).alloc _ | exact X0_7.out.rd.drew | exact (X0_7.out.rd.drew).alloc _) (by first | exact X1_7.out.rd | exact X1_7.out.rd.alloc _ | exact (X1_7.out.rd.alloc _).alloc _ | exact ((X1_7.out.rd.alloc _).alloc _).alloc _ | exact (((X1_7.out.rd.alloc _).alloc _).alloc _).alloc _ | exact X1_7.out.rd.drew | exact (X1_7.out.rd.drew).alloc _) X0_p.out X1_p.out HSZp0.out HSZp1.out).mono ?_
  rintro e w8 ⟨rfl, hb8⟩
  have hB8 : Below w7.heap.size w7 w8 := Below.next (by go_grown) hb8
  have hT8 : Below w.heap.size w w8 := Below.next hT7 hB8
  have hz8 := hb8.size
  (try simp only [World.size_alloc, World.size_drew] at hz8)
  have bx0_l8 : w.heap.size < w8.heap.size := Nat.lt_of_lt_of_le bx0_l7 hB8.size
  have bx0_0_8 : w8.cell? ⟨w.heap.size, 0, none⟩ = some (.slice f0.ch.A f0.ch.l.length f0.ch.c) := (hB8.cell (p := ⟨w.heap.size, 0, none⟩) bx0_l7).trans bx0_0_7
  have bx0_1_8 : w8.cell? ⟨w.heap.size, 1, none⟩ = some (.slice f0.st.A f0.st.l.length f0.st.c) := (hB8.cell (p := ⟨w.heap.size, 1, none⟩) bx0_l7).trans bx0_1_7
  have bx0_2_8 : w8.cell? ⟨w.heap.size, 2, none⟩ = some (.slice f0.no.A f0.no.l.length f0.no.c) := (hB8.cell (p := ⟨w.heap.size, 2, none⟩) bx0_l7).trans bx0_2_7
  have bx1_l8 : w.heap.size + 1 < w8.heap.size := Nat.lt_of_lt_of_le bx1_l7 hB8.size
  have bx1_0_8 : w8.cell? ⟨w.heap.size + 1, 0, none⟩ = some (.slice f1.ch.A f1.ch.l.length f1.ch.c) := (hB8.cell (p := ⟨w.heap.size + 1, 0, none⟩) bx1_l7).trans bx1_0_7
  have bx1_1_8 : w8.cell? ⟨w.heap.size + 1, 1, none⟩ = some (.slice f1.st.A f1.st.l.length f1.st.c) := (hB8.cell (p := ⟨w.heap.size + 1, 1, none⟩) bx1_l7).trans bx1_1_7
  have bx1_2_8 : w8.cell? ⟨w.heap.size + 1, 2, none⟩ = some (.slice f1.no.A f1.no.l.length f1.no.c) := (hB8.cell (p := ⟨w.heap.size + 1, 2, none⟩) bx1_l7).trans bx1_2_7
  have bX0_l8 : w6.heap.size < w8.heap.size := Nat.lt_of_lt_of_le bX0_l7 hB8.size
  have bX0_0_8 : w8.cell? ⟨w6.heap.size, 0, none⟩ = some (.slice t6.ch.A t6.ch.l.length t6.ch.c) := (hB8.cell (p := ⟨w6.heap.size, 0, none⟩) bX0_l7).trans bX0_0_7
  have bX0_1_8 : w8.cell? ⟨w6.heap.size, 1, none⟩ = some (.slice t6.st.A t6.st.l.length t6.st.c) := (hB8.cell (p := ⟨w6.heap.size, 1, none⟩) bX0_l7).trans bX0_1_7
  have bX0_2_8 : w8.cell? ⟨w6.heap.size, 2, none⟩ = some (.slice t6.no.A t6.no.l.length t6.no.c) := (hB8.cell (p := ⟨w6.heap.size, 2, none⟩) bX0_l7).trans bX0_2_7
  have bX1_l8 : w7.heap.size < w8.heap.size := by omega
  have bX1_0_8 : w8.cell? ⟨w7.heap.size, 0, none⟩ = some (.slice t7.ch.A t7.ch.l.length t7.ch.c) := (hb8.cell (p := ⟨w7.heap.size, 0, none⟩) (by (try simp only [World.size_alloc, World.size_drew]); omega)).trans (by go_simp)
  have bX1_1_8 : w8.cell? ⟨w7.heap.size, 1, none⟩ = some (.slice t7.st.A t7.st.l.length t7.st.c) := (hb8.cell (p := ⟨w7.heap.size, 1, none⟩) (by (try simp only [World.size_alloc, World.size_drew]); omega)).trans (by go_simp)
  have bX1_2_8 : w8.cell? ⟨w7.heap.size, 2, none⟩ = some (.slice t7.no.A t7.no.l.length t7.no.c) := (hb8.cell (p := ⟨w7.heap.size, 2, none⟩) (by (try simp only [World.size_alloc, World.size_drew]); omega)).trans (by go_simp)
  clear bx0_l7 bx0_0_7 bx0_1_7 bx0_2_7 bx1_l7 bx1_0_7 bx1_1_7 bx1_2_7 bX0_l7 bX0_0_7 bX0_1_7 bX0_2_7
  have HF0_8 := Lib.hid (HF0_0.out.below hT8)
  clear HF0_7
  have HF1_8 := Lib.hid (HF1_0.out.below hT8)
  clear HF1_7
  have X0_8 := Lib.hid (X0_7.out.next hB8)
  have X1_8 := Lib.hid (X1_7.out.next hB8)
  clear X0_7 X1_7
  go_wp2_with fail
  refine wp_region_held_drew (S := (fun w' => (∀ kb ko, kb < w8.heap.size → w'.cell? ⟨kb, ko, none⟩ = w8.cell? ⟨kb, ko, none⟩) ∧ w8.heap.size ≤ w'.heap.size ∧ Below w8.heap.size w8 w')) (by kernel_rfl) ?_ (fun hHeld => ?_)
  · (try dsimp only); (first | exact SB.mk hkB | exact SB.mk ((Below.refl _ _).drew) | (refine SB.mk ?_; go_grown; done) | (go_split_ands; refine SB.mk (Below.drew ?_); assumption) | (go_split_ands; refine SB.mk ?_; go_grown; done))
  first | (refine take_on (i := 0) (v := ?_) rfl (by kernel_rfl) (by kernel_rfl) (by kernel_rfl) (fun _ _ _ h => h) rfl ?_ (by assumption) ?_; rotate_left; · (intro w' hSw; (try dsimp only at hSw); go_simp; (try with_reducible rfl))) | (refine take_off (i := 0) rfl (by kernel_rfl) (by kernel_rfl) (by kernel_rfl) (fun _ _ _ h => h) rfl (by assumption) ?_)
  (try simp only [Act.put, List.setIfInBounds_toArray, List.set_cons_zero, List.set_cons_succ])
  first | (refine take_on (i := 1) (v := ?_) rfl (by kernel_rfl) (by kernel_rfl) (by kernel_rfl) (fun _ _ _ h => h) rfl ?_ (by assumption) ?_; rotate_left; · (intro w' hSw; (try dsimp only at hSw); go_simp; (try with_reducible rfl))) | (refine take_off (i := 1) rfl (by kernel_rfl) (by kernel_rfl) (by kernel_rfl) (fun _ _ _ h => h) rfl (by assumption) ?_)
  (try simp only [Act.put, List.setIfInBounds_toArray, List.set_cons_zero, List.set_cons_succ])
  refine wpAnyH_ready (rs := [2]) (by kernel_rfl) (by simp) ?_
  refine AllReadyH.cons rfl (fun K hK => ?_) AllReadyH.nil
  rw [if_pos (by rfl)]
  go_simp
  go_at_call 22
  refine (toFile_L f0 p0 _ (by first | exact HF0_8.out | exact HF0_8.out.alloc _ | exact (HF0_8.out.alloc _).alloc _ | exact ((HF0_8.out.alloc _).alloc _).alloc _ | exact HF0_8.out.drew | exact (HF0_8.out.drew).alloc _) HP0.out HSZp0.out).mono ?_
  rintro e w9 ⟨t9, rfl, hp9, ho9, hb9⟩
  have hB9 : Below w8.heap.size w8 w9 := Below.next (by go_grown) hb9
  have hT9 : Below w.heap.size w w9 := Below.next hT8 hB9
  have hz9 := hb9.size
  (try simp only [World.size_alloc, World.size_drew] at hz9)
  have bx0_l9 : w.heap.size < w9.heap.size := Nat.lt_of_lt_of_le bx0_l8 hB9.size
  have bx0_0_9 : w9.cell? ⟨w.heap.size, 0, none⟩ = some (.slice f0.ch.A f0.ch.l.length f0.ch.c) := (hB9.cell (p := ⟨w.heap.size, 0, none⟩) bx0_l8).trans bx0_0_8
  have bx0_1_9 : w9.cell? ⟨w.heap.size, 1, none⟩ = some (.slice f0.st.A f0.st.l.length f0.st.c) := (hB9.cell (p := ⟨w.heap.size, 1, none⟩) bx0_l8).trans bx0_1_8
  have bx0_2_9 : w9.cell? ⟨w.heap.size, 2, none⟩ = some (.slice f0.no.A f0.no.l.length f0.no.c) := (hB9.cell (p := ⟨w.heap.size, 2, none⟩) bx0_l8).trans bx0_2_8
  have bx1_l9 : w.heap.size + 1 < w9.heap.size := Nat.lt_of_lt_of_le bx1_l8 hB9.size
  have bx1_0_9 : w9.cell? ⟨w.heap.size + 1, 0, none⟩ = some (.slice f1.ch.A f1.ch.l.length f1.ch.c) := (hB9.cell (p := ⟨w.heap.size + 1, 0, none⟩) bx1_l8).trans bx1_0_8
  have bx1_1_9 : w9.cell? ⟨w.heap.size + 1, 1, none⟩ = some (.slice f1.st.A f1.st.l.length f1.st.c) := (hB9.cell (p := ⟨w.heap.size + 1, 1, none⟩) bx1_l8).trans bx1_1_8
  have bx1_2_9 : w9.cell? ⟨w.heap.size + 1, 2, none⟩ = some (.slice f1.no.A f1.no.l.length f1.no.c) := (hB9.cell (p := ⟨w.heap.size + 1, 2, none⟩) bx1_l8).trans bx1_2_8
  have bX0_l9 : w6.heap.size < w9.heap.size := Nat.lt_of_lt_of_le bX0_l8 hB9.size
  have bX0_0_9 : w9.cell? ⟨w6.heap.size, 0, none⟩ = some (.slice t6.ch.A t6.ch.l.length t6.ch.c) := (hB9.cell (p := ⟨w6.heap.size, 0, none⟩) bX0_l8).trans bX0_0_8
  have bX0_1_9 : w9.cell? ⟨w6.heap.size, 1, none⟩ = some (.slice t6.st.A t6.st.l.length t6.st.c) := (hB9.cell (p := ⟨w6.heap.size, 1, none⟩) bX0_l8).trans bX0_1_8
  have bX0_2_9 : w9.cell? ⟨w6.heap.size, 2, none⟩ = some (.slice t6.no.A t6.no.l.length t6.no.c) := (hB9.cell (p := ⟨w6.heap.size, 2, none⟩) bX0_l8).trans bX0_2_8
  have bX1_l9 : w7.heap.size < w9.heap.size := Nat.lt_of_lt_of_le bX1_l8 hB9.size
  have bX1_0_9 : w9.cell? ⟨w7.heap.size, 0, none⟩ = some (.slice t7.ch.A t7.ch.l.length t7.ch.c) := (hB9.cell (p := ⟨w7.heap.size, 0, none⟩) bX1_l8).trans bX1_0_8
  have bX1_1_9 : w9.cell? ⟨w7.heap.size, 1, none⟩ = some (.slice t7.st.A t7.st.l.length t7.st.c) := (hB9.cell (p := ⟨w7.heap.size, 1, none⟩) bX1_l8).trans bX1_1_8
  have bX1_2_9 : w9.cell? ⟨w7.heap.size, 2, none⟩ = some (.slice t7.no.A t7.no.l.length t7.no.c) := (hB9.cell (p := ⟨w7.heap.size, 2, none⟩) bX1_l8).trans bX1_2_8
  clear bx0_l8 bx0_0_8 bx0_1_8 bx0_2_8 bx1_l8 bx1_0_8 bx1_1_8 bx1_2_8 bX0_l8 bX0_0_8 bX0_1_8 bX0_2_8 bX1_l8 bX1_0_8 bX1_1_8 bX1_2_8
  have HF0_9 := Lib.hid (HF0_0.out.below hT9)
  clear HF0_8
  have HF1_9 := Lib.hid (HF1_0.out.below hT9)
  clear HF1_8
  have X0_9 := Lib.hid (X0_8.out.next hB9)
  have X1_9 := Lib.hid (X1_8.out.next hB9)
  clear X0_8 X1_8
  refine hK.out _ _ ?_ (fun hHeld2 => ?_)
  · (try dsimp only); exact SB.mk (Below.next (by go_grown) hb9)
  have hQ0 : Below w8.heap.size w8 w9 := Below.next (by go_grown) hb9
  clear hK K hHeld; have hHeld := hHeld2; clear hHeld2; (try simp only [Act.put, List.setIfInBounds_toArray, List.set_cons_zero, List.set_cons_succ])
  have XE_9 : Hid (FileMine w9 (w8.heap.size) (w9.heap.size) t9) := by have h := ho9; (try simp only [World.size_alloc, World.size_drew] at h); exact h
  have XE_p : Hid (filePl t9 = p0) := hp9
  clear ho9 hp9
  refine wpAnyH_ready (rs := [3]) (by kernel_rfl) (by simp) ?_
  refine AllReadyH.cons rfl (fun K hK => ?_) AllReadyH.nil
  rw [if_pos (by rfl)]
  go_simp
  go_at_call 15
  refine (eqFile_L t6 t9 p0 _ (by first | exact X0_9.out.rd | exact X0_9.out.rd.alloc _ | exact (X0_9.out.rd.alloc _).alloc _ | exact ((X0_9.out.rd.alloc _).alloc _).alloc _ | exact (((X0_9.out.rd.alloc _).alloc _).alloc _).alloc _ | exact X0_9.out.rd.drew | exact (X0_9.out.rd.drew).alloc _) (by first | exact XE_9.out.rd | exact XE_9.out.rd.alloc _ | exact (XE_9.out.rd.alloc _).alloc _ | exact ((XE_9.out.rd.alloc _).alloc _).alloc _ | exact (((XE_9.out.rd.alloc _).alloc _).alloc _).alloc _ | exact XE_9.out.rd.drew | exact (XE_9.out.rd.drew).alloc _) X0_p.out XE_p.out HSZp0.out).mono ?_
  rintro e w10 ⟨rfl, hb10⟩
  have hB10 : Below w9.heap.size w9 w10 := Below.next (by go_grown) hb10
  have hT10 : Below w.heap.size w w10 := Below.next hT9 hB10
  have hz10 := hb10.size
  (try simp only [World.size_alloc, World.size_drew] at hz10)
  have bx0_l10 : w.heap.size < w10.heap.size := Nat.lt_of_lt_of_le bx0_l9 hB10.size
  have bx0_0_10 : w10.cell? ⟨w.heap.size, 0, none⟩ = some (.slice f0.ch.A f0.ch.l.length f0.ch.c) := (hB10.cell (p := ⟨w.heap.size, 0, none⟩) bx0_l9).trans bx0_0_9
  have bx0_1_10 : w10.cell? ⟨w.heap.size, 1, none⟩ = some (.slice f0.st.A f0.st.l.length f0.st.c) := (hB10.cell (p := ⟨w.heap.size, 1, none⟩) bx0_l9).trans bx0_1_9
  have bx0_2_10 : w10.cell? ⟨w.heap.size, 2, none⟩ = some (.slice f0.no.A f0.no.l.length f0.no.c) := (hB10.cell (p := ⟨w.heap.size, 2, none⟩) bx0_l9).trans bx0_2_9
  have bx1_l10 : w.heap.size + 1 < w10.heap.size := Nat.lt_of_lt_of_le bx1_l9 hB10.size
  have bx1_0_10 : w10.cell? ⟨w.heap.size + 1, 0, none⟩ = some (.slice f1.ch.A f1.ch.l.length f1.ch.c) := (hB10.cell (p := ⟨w.heap.size + 1, 0, none⟩) bx1_l9).trans bx1_0_9
  have bx1_1_10 : w10.cell? ⟨w.heap.size + 1, 1, none⟩ = some (.slice f1.st.A f1.st.l.length f1.st.c) := (hB10.cell (p := ⟨w.heap.size + 1, 1, none⟩) bx1_l9).trans bx1_1_9
  have bx1_2_10 : w10.cell? ⟨w.heap.size + 1, 2, none⟩ = some (.slice f1.no.A f1.no.l.length f1.no.c) := (hB10.cell (p := ⟨w.heap.size + 1, 2, none⟩) bx1_l9).trans bx1_2_9
  have bX0_l10 : w6.heap.size < w10.heap.size := Nat.lt_of_lt_of_le bX0_l9 hB10.size
  have bX0_0_10 : w10.cell? ⟨w6.heap.size, 0, none⟩ = some (.slice t6.ch.A t6.ch.l.length t6.ch.c) := (hB10.cell (p := ⟨w6.heap.size, 0, none⟩) bX0_l9).trans bX0_0_9
  have bX0_1_10 : w10.cell? ⟨w6.heap.size, 1, none⟩ = some (.slice t6.st.A t6.st.l.length t6.st.c) := (hB10.cell (p := ⟨w6.heap.size, 1, none⟩) bX0_l9).trans bX0_1_9
  have bX0_2_10 : w10.cell? ⟨w6.heap.size, 2, none⟩ = some (.slice t6.no.A t6.no.l.length t6.no.c) := (hB10.cell (p := ⟨w6.heap.size, 2, none⟩) bX0_l9).trans bX0_2_9
  have bX1_l10 : w7.heap.size < w10.heap.size := Nat.lt_of_lt_of_le bX1_l9 hB10.size
  have bX1_0_10 : w10.cell? ⟨w7.heap.size, 0, none⟩ = some (.slice t7.ch.A t7.ch.l.length t7.ch.c) := (hB10.cell (p := ⟨w7.heap.size, 0, none⟩) bX1_l9).trans bX1_0_9
  have bX1_1_10 : w10.cell? ⟨w7.heap.size, 1, none⟩ = some (.slice t7.st.A t7.st.l.length t7.st.c) := (hB10.cell (p := ⟨w7.heap.size, 1, none⟩) bX1_l9).trans bX1_1_9
  have bX1_2_10 : w10.cell? ⟨w7.heap.size, 2, none⟩ = some (.slice t7.no.A t7.no.l.length t7.no.c) := (hB10.cell (p := ⟨w7.heap.size, 2, none⟩) bX1_l9).trans bX1_2_9
  clear bx0_l9 bx0_0_9 bx0_1_9 bx0_2_9 bx1_l9 bx1_0_9 bx1_1_9 bx1_2_9 bX0_l9 bX0_0_9 bX0_1_9 bX0_2_9 bX1_l9 bX1_0_9 bX1_1_9 bX1_2_9
  have HF0_10 := Lib.hid (HF0_0.out.below hT10)
  clear HF0_9
  have HF1_10 := Lib.hid (HF1_0.out.below hT10)
  clear HF1_9
  have X0_10 := Lib.hid (X0_9.out.next hB10)
  have X1_10 := Lib.hid (X1_9.out.next hB10)
  clear X0_9 X1_9
  refine hK.out _ _ ?_ (fun hHeld2 => ?_)
  · (try dsimp only); exact SB.mk (Below.next hQ0 hB10)
  have hQ0 : Below w8.heap.size w8 w10 := Below.next hQ0 hB10
  clear hK K hHeld; have hHeld := hHeld2; clear hHeld2; (try simp only [Act.put, List.setIfInBounds_toArray, List.set_cons_zero, List.set_cons_succ])
  first | (refine take_on (i := 4) (v := ?_) rfl (by kernel_rfl) (by kernel_rfl) (by kernel_rfl) (fun _ _ _ h => h) rfl ?_ (by assumption) ?_; rotate_left; · (intro w' hSw; (try dsimp only at hSw); go_simp; (try with_reducible rfl))) | (refine take_off (i := 4) rfl (by kernel_rfl) (by kernel_rfl) (by kernel_rfl) (fun _ _ _ h => h) rfl (by assumption) ?_)
  (try simp only [Act.put, List.setIfInBounds_toArray, List.set_cons_zero, List.set_cons_succ])
  refine wpAnyH_done (by kernel_rfl) ?_ _
  clear hHeld
  clear hQ0
  go_wp2_with fail
  refine wp_region_held_drew (S := (fun w' => (∀ kb ko, kb < w10.heap.size → w'.cell? ⟨kb, ko, none⟩ = w10.cell? ⟨kb, ko, none⟩) ∧ w10.heap.size ≤ w'.heap.size ∧ Below w10.heap.size w10 w')) (by kernel_rfl) ?_ (fun hHeld => ?_)
  · (try dsimp only); (first | exact SB.mk hkB | exact SB.mk ((Below.refl _ _).drew) | (refine SB.mk ?_; go_grown; done) | (go_split_ands; refine SB.mk (Below.drew ?_); assumption) | (go_split_ands; refine SB.mk ?_; go_grown; done))
  first | (refine take_on (i := 0) (v := ?_) rfl (by kernel_rfl) (by kernel_rfl) (by kernel_rfl) (fun _ _ _ h => h) rfl ?_ (by assumption) ?_; rotate_left; · (intro w' hSw; (try dsimp only at hSw); go_simp; (try with_reducible rfl))) | (refine take_off (i := 0) rfl (by kernel_rfl) (by kernel_rfl) (by kernel_rfl) (fun _ _ _ h => h) rfl (by assumption) ?_)
  (try simp only [Act.put, List.setIfInBounds_toArray, List.set_cons_zero, List.set_cons_succ])
  first | (refine take_on (i := 1) (v := ?_) rfl (by kernel_rfl) (by kernel_rfl) (by kernel_rfl) (fun _ _ _ h => h) rfl ?_ (by assumption) ?_; rotate_left; · (intro w' hSw; (try dsimp only at hSw); go_simp; (try with_reducible rfl))) | (refine take_off (i := 1) rfl (by kernel_rfl) (by kernel_rfl) (by kernel_rfl) (fun _ _ _ h => h) rfl (by assumption) ?_)
  (try simp only [Act.put, List.setIfInBounds_toArray, List.set_cons_zero, List.set_cons_succ])
  refine wpAnyH_ready (rs := [2]) (by kernel_rfl) (by simp) ?_
  refine AllReadyH.cons rfl (fun K hK => ?_) AllReadyH.nil
  rw [if_pos (by rfl)]
  go_simp
  go_at_call 22
  refine (toFile_L f1 p1 _ (by first | exact HF1_10.out | exact HF1_10.out.alloc _ | exact (HF1_10.out.alloc _).alloc _ | exact ((HF1_10.out.alloc _).alloc _).alloc _ | exact HF1_10.out.drew | exact (HF1_10.out.drew).alloc _) HP1.out HSZp1.out).mono ?_
  rintro e w11 ⟨t11, rfl, hp11, ho11, hb11⟩
  have hB11 : Below w10.heap.size w10 w11 := Below.next (by go_grown) hb11
  have hT11 : Below w.heap.size w w11 := Below.next hT10 hB11
  have hz11 := hb11.size
  (try simp only [World.size_alloc, World.size_drew] at hz11)
  have bx0_l11 : w.heap.size < w11.heap.size := Nat.lt_of_lt_of_le bx0_l10 hB11.size
  have bx0_0_11 : w11.cell? ⟨w.heap.size, 0, none⟩ = some (.slice f0.ch.A f0.ch.l.length f0.ch.c) := (hB11.cell (p := ⟨w.heap.size, 0, none⟩) bx0_l10).trans bx0_0_10
  have bx0_1_11 : w11.cell? ⟨w.heap.size, 1, none⟩ = some (.slice f0.st.A f0.st.l.length f0.st.c) := (hB11.cell (p := ⟨w.heap.size, 1, none⟩) bx0_l10).trans bx0_1_10
  have bx0_2_11 : w11.cell? ⟨w.heap.size, 2, none⟩ = some (.slice f0.no.A f0.no.l.length f0.no.c) := (hB11.cell (p := ⟨w.heap.size, 2, none⟩) bx0_l10).trans bx0_2_10
  have bx1_l11 : w.heap.size + 1 < w11.heap.size := Nat.lt_of_lt_of_le bx1_l10 hB11.size
  have bx1_0_11 : w11.cell? ⟨w.heap.size + 1, 0, none⟩ = some (.slice f1.ch.A f1.ch.l.length f1.ch.c) := (hB11.cell (p := ⟨w.heap.size + 1, 0, none⟩) bx1_l10).trans bx1_0_10
  have bx1_1_11 : w11.cell? ⟨w.heap.size + 1, 1, none⟩ = some (.slice f1.st.A f1.st.l.length f1.st.c) := (hB11.cell (p := ⟨w.heap.size + 1, 1, none⟩) bx1_l10).trans bx1_1_10
  have bx1_2_11 : w11.cell? ⟨w.heap.size + 1, 2, none⟩ = some (.slice f1.no.A f1.no.l.length f1.no.c) := (hB11.cell (p := ⟨w.heap.size + 1, 2, none⟩) bx1_l10).trans bx1_2_10
  have bX0_l11 : w6.heap.size < w11.heap.size := Nat.lt_of_lt_of_le bX0_l10 hB11.size
  have bX0_0_11 : w11.cell? ⟨w6.heap.size, 0, none⟩ = some (.slice t6.ch.A t6.ch.l.length t6.ch.c) := (hB11.cell (p := ⟨w6.heap.size, 0, none⟩) bX0_l10).trans bX0_0_10
  have bX0_1_11 : w11.cell? ⟨w6.heap.size, 1, none⟩ = some (.slice t6.st.A t6.st.l.length t6.st.c) := (hB11.cell (p := ⟨w6.heap.size, 1, none⟩) bX0_l10).trans bX0_1_10
  have bX0_2_11 : w11.cell? ⟨w6.heap.size, 2, none⟩ = some (.slice t6.no.A t6.no.l.length t6.no.c) := (hB11.cell (p := ⟨w6.heap.size, 2, none⟩) bX0_l10).trans bX0_2_10
  have bX1_l11 : w7.heap.size < w11.heap.size := Nat.lt_of_lt_of_le bX1_l10 hB11.size
  have bX1_0_11 : w11.cell? ⟨w7.heap.size, 0, none⟩ = some (.slice t7.ch.A t7.ch.l.length t7.ch.c) := (hB11.cell (p := ⟨w7.heap.size, 0, none⟩) bX1_l10).trans bX1_0_10
  have bX1_1_11 : w11.cell? ⟨w7.heap.size, 1, none⟩ = some (.slice t7.st.A t7.st.l.length t7.st.c) := (hB11.cell (p := ⟨w7.heap.size, 1, none⟩) bX1_l10).trans bX1_1_10
  have bX1_2_11 : w11.cell? ⟨w7.heap.size, 2, none⟩ = some (.slice t7.no.A t7.no.l.length t7.no.c) := (hB11.cell (p := ⟨w7.heap.size, 2, none⟩) bX1_l10).trans bX1_2_10
  clear bx0_l10 bx0_0_10 bx0_1_10 bx0_2_10 bx1_l10 bx1_0_10 bx1_1_10 bx1_2_10 bX0_l10 bX0_0_10 bX0_1_10 bX0_2_10 bX1_l10 bX1_0_10 bX1_1_10 bX1_2_10
  have HF0_11 := Lib.hid (HF0_0.out.below hT11)
  clear HF0_10
  have HF1_11 := Lib.hid (HF1_0.out.below hT11)
  clear HF1_10
  have X0_11 := Lib.hid (X0_10.out.next hB11)
  have X1_11 := Lib.hid (X1_10.out.next hB11)
  clear X0_10 X1_10
  refine hK.out _ _ ?_ (fun hHeld2 => ?_)
  · (try dsimp only); exact SB.mk (Below.next (by go_grown) hb11)
  have hQ0 : Below w10.heap.size w10 w11 := Below.next (by go_grown) hb11
  clear hK K hHeld; have hHeld := hHeld2; clear hHeld2; (try simp only [Act.put, List.setIfInBounds_toArray, List.set_cons_zero, List.set_cons_succ])
  have XE_11 : Hid (FileMine w11 (w10.heap.size) (w11.heap.size) t11) := by have h := ho11; (try simp only [World.size_alloc, World.size_drew] at h); exact h
  have XE_p : Hid (filePl t11 = p1) := hp11
  clear ho11 hp11
  refine wpAnyH_ready (rs := [3]) (by kernel_rfl) (by simp) ?_
  refine AllReadyH.cons rfl (fun K hK => ?_) AllReadyH.nil
  rw [if_pos (by rfl)]
  go_simp
  go_at_call 15
  refine (eqFile_L t7 t11 p1 _ (by first | exact X1_11.out.rd | exact X1_11.out.rd.alloc _ | exact (X1_11.out.rd.alloc _).alloc _ | exact ((X1_11.out.rd.alloc _).alloc _).alloc _ | exact (((X1_11.out.rd.alloc _).alloc _).alloc _).alloc _ | exact X1_11.out.rd.drew | exact (X1_11.out.rd.drew).alloc _) (by first | exact XE_11.out.rd | exact XE_11.out.rd.alloc _ | exact (XE_11.out.rd.alloc _).alloc _ | exact ((XE_11.out.rd.alloc _).alloc _).alloc _ | exact (((XE_11.out.rd.alloc _).alloc _).alloc _).alloc _ | exact XE_11.out.rd.drew | exact (XE_11.out.rd.drew).alloc _) X1_p.out XE_p.out HSZp1.out).mono ?_
  rintro e w12 ⟨rfl, hb12⟩
  have hB12 : Below w11.heap.size w11 w12 := Below.next (by go_grown) hb12
  have hT12 : Below w.heap.size w w12 := Below.next hT11 hB12
  have hz12 := hb12.size
  (try simp only [World.size_alloc, World.size_drew] at hz12)
  have bx0_l12 : w.heap.size < w12.heap.size := Nat.lt_of_lt_of_le bx0_l11 hB12.size
  have bx0_0_12 : w12.cell? ⟨w.heap.size, 0, none⟩ = some (.slice f0.ch.A f0.ch.l.length f0.ch.c) := (hB12.cell (p := ⟨w.heap.size, 0, none⟩) bx0_l11).trans bx0_0_11
  have bx0_1_12 : w12.cell? ⟨w.heap.size, 1, none⟩ = some (.slice f0.st.A f0.st.l.length f0.st.c) := (hB12.cell (p := ⟨w.heap.size, 1, none⟩) bx0_l11).trans bx0_1_11
  have bx0_2_12 : w12.cell? ⟨w.heap.size, 2, none⟩ = some (.slice f0.no.A f0.no.l.length f0.no.c) := (hB12.cell (p := ⟨w.heap.size, 2, none⟩) bx0_l11).trans bx0_2_11
  have bx1_l12 : w.heap.size + 1 < w12.heap.size := Nat.lt_of_lt_of_le bx1_l11 hB12.size
  have bx1_0_12 : w12.cell? ⟨w.heap.size + 1, 0, none⟩ = some (.slice f1.ch.A f1.ch.l.length f1.ch.c) := (hB12.cell (p := ⟨w.heap.size + 1, 0, none⟩) bx1_l11).trans bx1_0_11
  have bx1_1_12 : w12.cell? ⟨w.heap.size + 1, 1, none⟩ = some (.slice f1.st.A f1.st.l.length f1.st.c) := (hB12.cell (p := ⟨w.heap.size + 1, 1, none⟩) bx1_l11).trans bx1_1_11
  have bx1_2_12 : w12.cell? ⟨w.heap.size + 1, 2, none⟩ = some (.slice f1.no.A f1.no.l.length f1.no.c) := (hB12.cell (p := ⟨w.heap.size + 1, 2, none⟩) bx1_l11).trans bx1_2_11
  have bX0_l12 : w6.heap.size < w12.heap.size := Nat.lt_of_lt_of_le bX0_l11 hB12.size
  have bX0_0_12 : w12.cell? ⟨w6.heap.size, 0, none⟩ = some (.slice t6.ch.A t6.ch.l.length t6.ch.c) := (hB12.cell (p := ⟨w6.heap.size, 0, none⟩) bX0_l11).trans bX0_0_11
  have bX0_1_12 : w12.cell? ⟨w6.heap.size, 1, none⟩ = some (.slice t6.st.A t6.st.l.length t6.st.c) := (hB12.cell (p := ⟨w6.heap.size, 1, none⟩) bX0_l11).trans bX0_1_11
  have bX0_2_12 : w12.cell? ⟨w6.heap.size, 2, none⟩ = some (.slice t6.no.A t6.no.l.length t6.no.c) := (hB12.cell (p := ⟨w6.heap.size, 2, none⟩) bX0_l11).trans bX0_2_11
  have bX1_l12 : w7.heap.size < w12.heap.size := Nat.lt_of_lt_of_le bX1_l11 hB12.size
  have bX1_0_12 : w12.cell? ⟨w7.heap.size, 0, none⟩ = some (.slice t7.ch.A t7.ch.l.length t7.ch.c) := (hB12.cell (p := ⟨w7.heap.size, 0, none⟩) bX1_l11).trans bX1_0_11
  have bX1_1_12 : w12.cell? ⟨w7.heap.size, 1, none⟩ = some (.slice t7.st.A t7.st.l.length t7.st.c) := (hB12.cell (p := ⟨w7.heap.size, 1, none⟩) bX1_l11).trans bX1_1_11
  have bX1_2_12 : w12.cell? ⟨w7.heap.size, 2, none⟩ = some (.slice t7.no.A t7.no.l.length t7.no.c) := (hB12.cell (p := ⟨w7.heap.size, 2, none⟩) bX1_l11).trans bX1_2_11
  clear bx0_l11 bx0_0_11 bx0_1_11 bx0_2_11 bx1_l11 bx1_0_11 bx1_1_11 bx1_2_11 bX0_l11 bX0_0_11 bX0_1_11 bX0_2_11 bX1_l11 bX1_0_11 bX1_1_11 bX1_2_11
  have HF0_12 := Lib.hid (HF0_0.out.below hT12)
  clear HF0_11
  have HF1_12 := Lib.hid (HF1_0.out.below hT12)
  clear HF1_11
  have X0_12 := Lib.hid (X0_11.out.next hB12)
  have X1_12 := Lib.hid (X1_11.out.next hB12)
  clear X0_11 X1_11
  refine hK.out _ _ ?_ (fun hHeld2 => ?_)
  · (try dsimp only); exact SB.mk (Below.next hQ0 hB12)
  have hQ0 : Below w10.heap.size w10 w12 := Below.next hQ0 hB12
  clear hK K hHeld; have hHeld := hHeld2; clear hHeld2; (try simp only [Act.put, List.setIfInBounds_toArray, List.set_cons_zero, List.set_cons_succ])
  first | (refine take_on (i := 4) (v := ?_) rfl (by kernel_rfl) (by kernel_rfl) (by kernel_rfl) (fun _ _ _ h => h) rfl ?_ (by assumption) ?_; rotate_left; · (intro w' hSw; (try dsimp only at hSw); go_simp; (try with_reducible rfl))) | (refine take_off (i := 4) rfl (by kernel_rfl) (by kernel_rfl) (by kernel_rfl) (fun _ _ _ h => h) rfl (by assumption) ?_)
  (try simp only [Act.put, List.setIfInBounds_toArray, List.set_cons_zero, List.set_cons_succ])
  refine wpAnyH_done (by kernel_rfl) ?_ _
  clear hHeld
  clear hQ0
  go_wp2_with fail
  go_ret
  exact ⟨rfl, by go_grown⟩

theorem law_SameFile {w : World} (f0 : Fl) (hg0 : FileGood w f0) (f1 : Fl) (hg1 : FileGood w f1) (_ : World) :
    Calls Try.prog 4 #[.agg #[.slice f0.ch.A f0.ch.l.length f0.ch.c, .slice f0.st.A f0.st.l.length f0.st.c, .slice f0.no.A f0.no.l.length f0.no.c], .agg #[.slice f1.ch.A f1.ch.l.length f1.ch.c, .slice f1.st.A f1.st.l.length f1.st.c, .slice f1.no.A f1.no.l.length f1.no.c]] w (Yes w) :=
  SameFile_walk f0 hg0 f1 hg1 
end Go.Proofs.Ytigingjpdlfanaa
