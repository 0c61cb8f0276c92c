/-
  The law of ReadFile returns true: program and reference read the same file, or refuse alike; the file is the caller's own.
-/
import Derived.Test.YtmdmjnhebbhjbaaGreatDoorRdFlb
import Derived.Test.YtmdmjnhebbhjbaaGreatDoorReadDecimalLaw
import Derived.Test.YtmdmjnhebbhjbaaGreatDoorBaseC
namespace Go.Proofs.YtmdmjnhebbhjbaaGreatDoor
set_option linter.unusedSimpArgs false
set_option linter.unusedVariables false
set_option maxRecDepth 20000
open Go.RowKit
open Go.ChangeShapes Go.WideShapes Go.Deep Go.Joins

set_option maxHeartbeats 16000000 in
set_option maxRecDepth 100000 in
theorem ReadFile_walk (s : ByteArray) (w : World) (hmx : MaxIs w) (htb : Tab10 w) (her : ErrIs w) : Calls Tryz.prog 3 #[.string s] w (Yes w) := by
  have MX_0 := Lib.hid hmx
  have TB_0 := Lib.hid htb
  have ER_0 := Lib.hid her
  clear hmx htb her
  by_cases hle : s.size ≤ 1048576
  rotate_left
  · go_enter Tryz.func3, Tryz.ntmps3
    go_wp2_with fail
    go_ret
    exact ⟨rfl, Below.refl _ _⟩
  obtain ⟨p, code, hr⟩ := resF_any s.data.toList
  have HCR := Lib.hid hr
  have HSZp : Hid (PlSz p) := (hr.sz (by have h : s.data.toList.length = s.size := Array.length_toList; omega)).1
  obtain ⟨mmp, hmm0⟩ : ∃ mm, 1 + cntPl p = mm := ⟨_, rfl⟩
  have hmb : mmp ≤ 33554433 := by have := HSZp.out.cnt; omega
  have HMMp := Lib.hid hmm0
  clear hr hmm0
  have hT0 : Below w.heap.size w w := Below.refl _ _
  go_enter Tryz.func3, Tryz.ntmps3
  go_wp2_with fail
  refine (sReadFile_any s hle p code HCR _).mono ?_
  rintro e w1 ⟨f1, rfl, hp1, ho1, hb1⟩
  have hB1 : Below w.heap.size w w1 := Below.next (by go_grown) hb1
  have hT1 : Below w.heap.size w w1 := hB1
  have hz1 := hb1.size
  (try simp only [World.size_alloc, World.size_drew] at hz1)
  have MX_1 := Lib.hid (MX_0.out.below hT1)
  have TB_1 := Lib.hid (TB_0.out.below hT1)
  have ER_1 := Lib.hid (ER_0.out.below hT1)
  have W0_1 : Hid (FileMine w1 (w.heap.size) (w1.heap.size) f1) := by have h := ho1; (try simp only [World.size_alloc, World.size_drew] at h); exact h
  have W0_p : Hid (filePl f1 = p) := hp1
  clear ho1 hp1
  go_wp2_with fail
  refine (iReadFile_any s hle p code HCR _ (MX_1.out.below (by go_grown)) (TB_1.out.below (by go_grown)) (ER_1.out.below (by go_grown))).mono ?_
  rintro e w2 ⟨f2, rfl, hp2, ho2, hb2⟩
  have hB2 : Below w1.heap.size w1 w2 := Below.next (by go_grown) hb2
  have hT2 : Below w.heap.size w w2 := Below.next hT1 hB2
  have hz2 := hb2.size
  (try simp only [World.size_alloc, World.size_drew] at hz2)
  have bW0_l2 : w1.heap.size < w2.heap.size := by omega
  have bW0_0_2 : w2.cell? ⟨w1.heap.size, 0, none⟩ = some (.slice f1.ch.A f1.ch.l.length f1.ch.c) := (hb2.cell (p := ⟨w1.heap.size, 0, none⟩) (by (try simp only [World.size_alloc, World.size_drew]); omega)).trans (by go_simp)
  have bW0_1_2 : w2.cell? ⟨w1.heap.size, 1, none⟩ = some (.slice f1.st.A f1.st.l.length f1.st.c) := (hb2.cell (p := ⟨w1.heap.size, 1, none⟩) (by (try simp only [World.size_alloc, World.size_drew]); omega)).trans (by go_simp)
  have bW0_2_2 : w2.cell? ⟨w1.heap.size, 2, none⟩ = some (.slice f1.no.A f1.no.l.length f1.no.c) := (hb2.cell (p := ⟨w1.heap.size, 2, none⟩) (by (try simp only [World.size_alloc, World.size_drew]); omega)).trans (by go_simp)
  have MX_2 := Lib.hid (MX_0.out.below hT2)
  clear MX_1
  have TB_2 := Lib.hid (TB_0.out.below hT2)
  clear TB_1
  have ER_2 := Lib.hid (ER_0.out.below hT2)
  clear ER_1
  have W0_2 := Lib.hid (W0_1.out.next hB2)
  clear W0_1
  have G0_2 : Hid (FileMine w2 (w1.heap.size + 1) (w2.heap.size) f2) := by have h := ho2; (try simp only [World.size_alloc, World.size_drew] at h); exact h
  have G0_p : Hid (filePl f2 = p) := hp2
  clear ho2 hp2
  go_wp2_with fail
  refine (eqFile_L f2 f1 p _ (by first | exact G0_2.out.rd | exact G0_2.out.rd.alloc _ | exact (G0_2.out.rd.alloc _).alloc _ | exact ((G0_2.out.rd.alloc _).alloc _).alloc _ | exact (((G0_2.out.rd.alloc _).alloc _).alloc _).alloc _ | exact G0_2.out.rd.drew | exact (G0_2.out.rd.drew).alloc _) (by first | exact W0_2.out.rd | exact W0_2.out.rd.alloc _ | exact (W0_2.out.rd.alloc _).alloc _ | exact ((W0_2.out.rd.alloc _).alloc _).alloc _ | exact (((W0_2.out.rd.alloc _).alloc _).alloc _).alloc _ | exact W0_2.out.rd.drew | exact (W0_2.out.rd.drew).alloc _) G0_p.out W0_p.out HSZp.out).mono ?_
  rintro e w3 ⟨rfl, hb3⟩
  have hB3 : Below w2.heap.size w2 w3 := Below.next (by go_grown) hb3
  have hT3 : Below w.heap.size w w3 := Below.next hT2 hB3
  have hz3 := hb3.size
  (try simp only [World.size_alloc, World.size_drew] at hz3)
  have bW0_l3 : w1.heap.size < w3.heap.size := Nat.lt_of_lt_of_le bW0_l2 hB3.size
  have bW0_0_3 : w3.cell? ⟨w1.heap.size, 0, none⟩ = some (.slice f1.ch.A f1.ch.l.length f1.ch.c) := (hB3.cell (p := ⟨w1.heap.size, 0, none⟩) bW0_l2).trans bW0_0_2
  have bW0_1_3 : w3.cell? ⟨w1.heap.size, 1, none⟩ = some (.slice f1.st.A f1.st.l.length f1.st.c) := (hB3.cell (p := ⟨w1.heap.size, 1, none⟩) bW0_l2).trans bW0_1_2
  have bW0_2_3 : w3.cell? ⟨w1.heap.size, 2, none⟩ = some (.slice f1.no.A f1.no.l.length f1.no.c) := (hB3.cell (p := ⟨w1.heap.size, 2, none⟩) bW0_l2).trans bW0_2_2
  have bG0_l3 : w2.heap.size < w3.heap.size := by omega
  have bG0_0_3 : w3.cell? ⟨w2.heap.size, 0, none⟩ = some (.slice f2.ch.A f2.ch.l.length f2.ch.c) := (hb3.cell (p := ⟨w2.heap.size, 0, none⟩) (by (try simp only [World.size_alloc, World.size_drew]); omega)).trans (by go_simp)
  have bG0_1_3 : w3.cell? ⟨w2.heap.size, 1, none⟩ = some (.slice f2.st.A f2.st.l.length f2.st.c) := (hb3.cell (p := ⟨w2.heap.size, 1, none⟩) (by (try simp only [World.size_alloc, World.size_drew]); omega)).trans (by go_simp)
  have bG0_2_3 : w3.cell? ⟨w2.heap.size, 2, none⟩ = some (.slice f2.no.A f2.no.l.length f2.no.c) := (hb3.cell (p := ⟨w2.heap.size, 2, none⟩) (by (try simp only [World.size_alloc, World.size_drew]); omega)).trans (by go_simp)
  clear bW0_l2 bW0_0_2 bW0_1_2 bW0_2_2
  have MX_3 := Lib.hid (MX_0.out.below hT3)
  clear MX_2
  have TB_3 := Lib.hid (TB_0.out.below hT3)
  clear TB_2
  have ER_3 := Lib.hid (ER_0.out.below hT3)
  clear ER_2
  have W0_3 := Lib.hid (W0_2.out.next hB3)
  have G0_3 := Lib.hid (G0_2.out.next hB3)
  clear W0_2 G0_2
  go_wp2_with fail
  refine (markFile_L f2 (w1.heap.size + 1) (w2.heap.size) p mmp _ (by first | exact G0_3.out | exact G0_3.out.alloc _ | exact (G0_3.out.alloc _).alloc _ | exact ((G0_3.out.alloc _).alloc _).alloc _ | exact (((G0_3.out.alloc _).alloc _).alloc _).alloc _ | exact G0_3.out.drew | exact (G0_3.out.drew).alloc _) (by omega) G0_p.out HSZp.out HMMp.out).mono ?_
  rintro e w4 ⟨rfl, ho4, hc4⟩
  have hz4 : w3.heap.size ≤ w4.heap.size := hc4.size
  have hT4 : Below w.heap.size w w4 := hT3.trans ((hc4.below (by omega)).mono (by omega))
  have G0_4 : Hid (FileMine w4 (w1.heap.size + 1) (w2.heap.size) (mkFile 1 f2)) := ho4
  clear ho4
  have bW0_l4 : w1.heap.size < w4.heap.size := Nat.lt_of_lt_of_le bW0_l3 hz4
  have bW0_0_4 : w4.cell? ⟨w1.heap.size, 0, none⟩ = some (.slice f1.ch.A f1.ch.l.length f1.ch.c) := (hc4.cell 0 bW0_l3 (by omega)).trans bW0_0_3
  have bW0_1_4 : w4.cell? ⟨w1.heap.size, 1, none⟩ = some (.slice f1.st.A f1.st.l.length f1.st.c) := (hc4.cell 1 bW0_l3 (by omega)).trans bW0_1_3
  have bW0_2_4 : w4.cell? ⟨w1.heap.size, 2, none⟩ = some (.slice f1.no.A f1.no.l.length f1.no.c) := (hc4.cell 2 bW0_l3 (by omega)).trans bW0_2_3
  have bG0_l4 : w2.heap.size < w4.heap.size := Nat.lt_of_lt_of_le bG0_l3 hz4
  have bG0_0_4 : w4.cell? ⟨w2.heap.size, 0, none⟩ = some (.slice f2.ch.A f2.ch.l.length f2.ch.c) := (hc4.cell 0 bG0_l3 (by omega)).trans bG0_0_3
  have bG0_1_4 : w4.cell? ⟨w2.heap.size, 1, none⟩ = some (.slice f2.st.A f2.st.l.length f2.st.c) := (hc4.cell 1 bG0_l3 (by omega)).trans bG0_1_3
  have bG0_2_4 : w4.cell? ⟨w2.heap.size, 2, none⟩ = some (.slice f2.no.A f2.no.l.length f2.no.c) := (hc4.cell 2 bG0_l3 (by omega)).trans bG0_2_3
  have MX_4 := Lib.hid (MX_0.out.below hT4)
  have TB_4 := Lib.hid (TB_0.out.below hT4)
  have ER_4 := Lib.hid (ER_0.out.below hT4)
  clear G0_3 MX_3 TB_3 ER_3 bW0_l3 bW0_0_3 bW0_1_3 bW0_2_3 bG0_l3 bG0_0_3 bG0_1_3 bG0_2_3
  have W0_4 := Lib.hid (W0_3.out.keepChg hc4 (by omega))
  clear W0_3
  go_wp2_with fail
  refine (heldFile_L f2 p mmp _ (by first | exact G0_4.out.rd | exact G0_4.out.rd.alloc _ | exact (G0_4.out.rd.alloc _).alloc _ | exact ((G0_4.out.rd.alloc _).alloc _).alloc _ | exact (((G0_4.out.rd.alloc _).alloc _).alloc _).alloc _ | exact G0_4.out.rd.drew | exact (G0_4.out.rd.drew).alloc _) G0_p.out HSZp.out HMMp.out).mono ?_
  rintro e w5 ⟨rfl, hb5⟩
  have hB5 : Below w4.heap.size w4 w5 := Below.next (by go_grown) hb5
  have hT5 : Below w.heap.size w w5 := Below.next hT4 hB5
  have hz5 := hb5.size
  (try simp only [World.size_alloc, World.size_drew] at hz5)
  have bW0_l5 : w1.heap.size < w5.heap.size := Nat.lt_of_lt_of_le bW0_l4 hB5.size
  have bW0_0_5 : w5.cell? ⟨w1.heap.size, 0, none⟩ = some (.slice f1.ch.A f1.ch.l.length f1.ch.c) := (hB5.cell (p := ⟨w1.heap.size, 0, none⟩) bW0_l4).trans bW0_0_4
  have bW0_1_5 : w5.cell? ⟨w1.heap.size, 1, none⟩ = some (.slice f1.st.A f1.st.l.length f1.st.c) := (hB5.cell (p := ⟨w1.heap.size, 1, none⟩) bW0_l4).trans bW0_1_4
  have bW0_2_5 : w5.cell? ⟨w1.heap.size, 2, none⟩ = some (.slice f1.no.A f1.no.l.length f1.no.c) := (hB5.cell (p := ⟨w1.heap.size, 2, none⟩) bW0_l4).trans bW0_2_4
  have bG0_l5 : w2.heap.size < w5.heap.size := Nat.lt_of_lt_of_le bG0_l4 hB5.size
  have bG0_0_5 : w5.cell? ⟨w2.heap.size, 0, none⟩ = some (.slice f2.ch.A f2.ch.l.length f2.ch.c) := (hB5.cell (p := ⟨w2.heap.size, 0, none⟩) bG0_l4).trans bG0_0_4
  have bG0_1_5 : w5.cell? ⟨w2.heap.size, 1, none⟩ = some (.slice f2.st.A f2.st.l.length f2.st.c) := (hB5.cell (p := ⟨w2.heap.size, 1, none⟩) bG0_l4).trans bG0_1_4
  have bG0_2_5 : w5.cell? ⟨w2.heap.size, 2, none⟩ = some (.slice f2.no.A f2.no.l.length f2.no.c) := (hB5.cell (p := ⟨w2.heap.size, 2, none⟩) bG0_l4).trans bG0_2_4
  clear bW0_l4 bW0_0_4 bW0_1_4 bW0_2_4 bG0_l4 bG0_0_4 bG0_1_4 bG0_2_4
  have MX_5 := Lib.hid (MX_0.out.below hT5)
  clear MX_4
  have TB_5 := Lib.hid (TB_0.out.below hT5)
  clear TB_4
  have ER_5 := Lib.hid (ER_0.out.below hT5)
  clear ER_4
  have W0_5 := Lib.hid (W0_4.out.next hB5)
  have G0_5 := Lib.hid (G0_4.out.next hB5)
  clear W0_4 G0_4
  go_wp2_with fail
  refine (iReadFile_any s hle p code HCR _ (MX_5.out.below (by go_grown)) (TB_5.out.below (by go_grown)) (ER_5.out.below (by go_grown))).mono ?_
  rintro e w6 ⟨f6, rfl, hp6, ho6, hb6⟩
  have hB6 : Below w5.heap.size w5 w6 := Below.next (by go_grown) hb6
  have hT6 : Below w.heap.size w w6 := Below.next hT5 hB6
  have hz6 := hb6.size
  (try simp only [World.size_alloc, World.size_drew] at hz6)
  have bW0_l6 : w1.heap.size < w6.heap.size := Nat.lt_of_lt_of_le bW0_l5 hB6.size
  have bW0_0_6 : w6.cell? ⟨w1.heap.size, 0, none⟩ = some (.slice f1.ch.A f1.ch.l.length f1.ch.c) := (hB6.cell (p := ⟨w1.heap.size, 0, none⟩) bW0_l5).trans bW0_0_5
  have bW0_1_6 : w6.cell? ⟨w1.heap.size, 1, none⟩ = some (.slice f1.st.A f1.st.l.length f1.st.c) := (hB6.cell (p := ⟨w1.heap.size, 1, none⟩) bW0_l5).trans bW0_1_5
  have bW0_2_6 : w6.cell? ⟨w1.heap.size, 2, none⟩ = some (.slice f1.no.A f1.no.l.length f1.no.c) := (hB6.cell (p := ⟨w1.heap.size, 2, none⟩) bW0_l5).trans bW0_2_5
  have bG0_l6 : w2.heap.size < w6.heap.size := Nat.lt_of_lt_of_le bG0_l5 hB6.size
  have bG0_0_6 : w6.cell? ⟨w2.heap.size, 0, none⟩ = some (.slice f2.ch.A f2.ch.l.length f2.ch.c) := (hB6.cell (p := ⟨w2.heap.size, 0, none⟩) bG0_l5).trans bG0_0_5
  have bG0_1_6 : w6.cell? ⟨w2.heap.size, 1, none⟩ = some (.slice f2.st.A f2.st.l.length f2.st.c) := (hB6.cell (p := ⟨w2.heap.size, 1, none⟩) bG0_l5).trans bG0_1_5
  have bG0_2_6 : w6.cell? ⟨w2.heap.size, 2, none⟩ = some (.slice f2.no.A f2.no.l.length f2.no.c) := (hB6.cell (p := ⟨w2.heap.size, 2, none⟩) bG0_l5).trans bG0_2_5
  clear bW0_l5 bW0_0_5 bW0_1_5 bW0_2_5 bG0_l5 bG0_0_5 bG0_1_5 bG0_2_5
  have MX_6 := Lib.hid (MX_0.out.below hT6)
  clear MX_5
  have TB_6 := Lib.hid (TB_0.out.below hT6)
  clear TB_5
  have ER_6 := Lib.hid (ER_0.out.below hT6)
  clear ER_5
  have W0_6 := Lib.hid (W0_5.out.next hB6)
  have G0_6 := Lib.hid (G0_5.out.next hB6)
  clear W0_5 G0_5
  have H0_6 : Hid (FileMine w6 (w5.heap.size) (w6.heap.size) f6) := by have h := ho6; (try simp only [World.size_alloc, World.size_drew] at h); exact h
  have H0_p : Hid (filePl f6 = p) := hp6
  clear ho6 hp6
  go_wp2_with fail
  refine (eqFile_L f6 f1 p _ (by first | exact H0_6.out.rd | exact H0_6.out.rd.alloc _ | exact (H0_6.out.rd.alloc _).alloc _ | exact ((H0_6.out.rd.alloc _).alloc _).alloc _ | exact (((H0_6.out.rd.alloc _).alloc _).alloc _).alloc _ | exact H0_6.out.rd.drew | exact (H0_6.out.rd.drew).alloc _) (by first | exact W0_6.out.rd | exact W0_6.out.rd.alloc _ | exact (W0_6.out.rd.alloc _).alloc _ | exact ((W0_6.out.rd.alloc _).alloc _).alloc _ | exact (((W0_6.out.rd.alloc _).alloc _).alloc _).alloc _ | exact W0_6.out.rd.drew | exact (W0_6.out.rd.drew).alloc _) H0_p.out W0_p.out HSZp.out).mono ?_
  rintro e w7 ⟨rfl, hb7⟩
  have hB7 : Below w6.heap.size w6 w7 := Below.next (by go_grown) hb7
  have hT7 : Below w.heap.size w w7 := Below.next hT6 hB7
  have hz7 := hb7.size
  (try simp only [World.size_alloc, World.size_drew] at hz7)
  have bW0_l7 : w1.heap.size < w7.heap.size := Nat.lt_of_lt_of_le bW0_l6 hB7.size
  have bW0_0_7 : w7.cell? ⟨w1.heap.size, 0, none⟩ = some (.slice f1.ch.A f1.ch.l.length f1.ch.c) := (hB7.cell (p := ⟨w1.heap.size, 0, none⟩) bW0_l6).trans bW0_0_6
  have bW0_1_7 : w7.cell? ⟨w1.heap.size, 1, none⟩ = some (.slice f1.st.A f1.st.l.length f1.st.c) := (hB7.cell (p := ⟨w1.heap.size, 1, none⟩) bW0_l6).trans bW0_1_6
  have bW0_2_7 : w7.cell? ⟨w1.heap.size, 2, none⟩ = some (.slice f1.no.A f1.no.l.length f1.no.c) := (hB7.cell (p := ⟨w1.heap.size, 2, none⟩) bW0_l6).trans bW0_2_6
  have bG0_l7 : w2.heap.size < w7.heap.size := Nat.lt_of_lt_of_le bG0_l6 hB7.size
  have bG0_0_7 : w7.cell? ⟨w2.heap.size, 0, none⟩ = some (.slice f2.ch.A f2.ch.l.length f2.ch.c) := (hB7.cell (p := ⟨w2.heap.size, 0, none⟩) bG0_l6).trans bG0_0_6
  have bG0_1_7 : w7.cell? ⟨w2.heap.size, 1, none⟩ = some (.slice f2.st.A f2.st.l.length f2.st.c) := (hB7.cell (p := ⟨w2.heap.size, 1, none⟩) bG0_l6).trans bG0_1_6
  have bG0_2_7 : w7.cell? ⟨w2.heap.size, 2, none⟩ = some (.slice f2.no.A f2.no.l.length f2.no.c) := (hB7.cell (p := ⟨w2.heap.size, 2, none⟩) bG0_l6).trans bG0_2_6
  have bH0_l7 : w6.heap.size < w7.heap.size := by omega
  have bH0_0_7 : w7.cell? ⟨w6.heap.size, 0, none⟩ = some (.slice f6.ch.A f6.ch.l.length f6.ch.c) := (hb7.cell (p := ⟨w6.heap.size, 0, none⟩) (by (try simp only [World.size_alloc, World.size_drew]); omega)).trans (by go_simp)
  have bH0_1_7 : w7.cell? ⟨w6.heap.size, 1, none⟩ = some (.slice f6.st.A f6.st.l.length f6.st.c) := (hb7.cell (p := ⟨w6.heap.size, 1, none⟩) (by (try simp only [World.size_alloc, World.size_drew]); omega)).trans (by go_simp)
  have bH0_2_7 : w7.cell? ⟨w6.heap.size, 2, none⟩ = some (.slice f6.no.A f6.no.l.length f6.no.c) := (hb7.cell (p := ⟨w6.heap.size, 2, none⟩) (by (try simp only [World.size_alloc, World.size_drew]); omega)).trans (by go_simp)
  clear bW0_l6 bW0_0_6 bW0_1_6 bW0_2_6 bG0_l6 bG0_0_6 bG0_1_6 bG0_2_6
  have MX_7 := Lib.hid (MX_0.out.below hT7)
  clear MX_6
  have TB_7 := Lib.hid (TB_0.out.below hT7)
  clear TB_6
  have ER_7 := Lib.hid (ER_0.out.below hT7)
  clear ER_6
  have W0_7 := Lib.hid (W0_6.out.next hB7)
  have G0_7 := Lib.hid (G0_6.out.next hB7)
  have H0_7 := Lib.hid (H0_6.out.next hB7)
  clear W0_6 G0_6 H0_6
  go_wp2_with fail
  refine (heldFile_L f2 p mmp _ (by first | exact G0_7.out.rd | exact G0_7.out.rd.alloc _ | exact (G0_7.out.rd.alloc _).alloc _ | exact ((G0_7.out.rd.alloc _).alloc _).alloc _ | exact (((G0_7.out.rd.alloc _).alloc _).alloc _).alloc _ | exact G0_7.out.rd.drew | exact (G0_7.out.rd.drew).alloc _) G0_p.out HSZp.out HMMp.out).mono ?_
  rintro e w8 ⟨rfl, hb8⟩
  have hB8 : Below w7.heap.size w7 w8 := Below.next (by go_grown) hb8
  have hT8 : Below w.heap.size w w8 := Below.next hT7 hB8
  have hz8 := hb8.size
  (try simp only [World.size_alloc, World.size_drew] at hz8)
  have bW0_l8 : w1.heap.size < w8.heap.size := Nat.lt_of_lt_of_le bW0_l7 hB8.size
  have bW0_0_8 : w8.cell? ⟨w1.heap.size, 0, none⟩ = some (.slice f1.ch.A f1.ch.l.length f1.ch.c) := (hB8.cell (p := ⟨w1.heap.size, 0, none⟩) bW0_l7).trans bW0_0_7
  have bW0_1_8 : w8.cell? ⟨w1.heap.size, 1, none⟩ = some (.slice f1.st.A f1.st.l.length f1.st.c) := (hB8.cell (p := ⟨w1.heap.size, 1, none⟩) bW0_l7).trans bW0_1_7
  have bW0_2_8 : w8.cell? ⟨w1.heap.size, 2, none⟩ = some (.slice f1.no.A f1.no.l.length f1.no.c) := (hB8.cell (p := ⟨w1.heap.size, 2, none⟩) bW0_l7).trans bW0_2_7
  have bG0_l8 : w2.heap.size < w8.heap.size := Nat.lt_of_lt_of_le bG0_l7 hB8.size
  have bG0_0_8 : w8.cell? ⟨w2.heap.size, 0, none⟩ = some (.slice f2.ch.A f2.ch.l.length f2.ch.c) := (hB8.cell (p := ⟨w2.heap.size, 0, none⟩) bG0_l7).trans bG0_0_7
  have bG0_1_8 : w8.cell? ⟨w2.heap.size, 1, none⟩ = some (.slice f2.st.A f2.st.l.length f2.st.c) := (hB8.cell (p := ⟨w2.heap.size, 1, none⟩) bG0_l7).trans bG0_1_7
  have bG0_2_8 : w8.cell? ⟨w2.heap.size, 2, none⟩ = some (.slice f2.no.A f2.no.l.length f2.no.c) := (hB8.cell (p := ⟨w2.heap.size, 2, none⟩) bG0_l7).trans bG0_2_7
  have bH0_l8 : w6.heap.size < w8.heap.size := Nat.lt_of_lt_of_le bH0_l7 hB8.size
  have bH0_0_8 : w8.cell? ⟨w6.heap.size, 0, none⟩ = some (.slice f6.ch.A f6.ch.l.length f6.ch.c) := (hB8.cell (p := ⟨w6.heap.size, 0, none⟩) bH0_l7).trans bH0_0_7
  have bH0_1_8 : w8.cell? ⟨w6.heap.size, 1, none⟩ = some (.slice f6.st.A f6.st.l.length f6.st.c) := (hB8.cell (p := ⟨w6.heap.size, 1, none⟩) bH0_l7).trans bH0_1_7
  have bH0_2_8 : w8.cell? ⟨w6.heap.size, 2, none⟩ = some (.slice f6.no.A f6.no.l.length f6.no.c) := (hB8.cell (p := ⟨w6.heap.size, 2, none⟩) bH0_l7).trans bH0_2_7
  clear bW0_l7 bW0_0_7 bW0_1_7 bW0_2_7 bG0_l7 bG0_0_7 bG0_1_7 bG0_2_7 bH0_l7 bH0_0_7 bH0_1_7 bH0_2_7
  have MX_8 := Lib.hid (MX_0.out.below hT8)
  clear MX_7
  have TB_8 := Lib.hid (TB_0.out.below hT8)
  clear TB_7
  have ER_8 := Lib.hid (ER_0.out.below hT8)
  clear ER_7
  have W0_8 := Lib.hid (W0_7.out.next hB8)
  have G0_8 := Lib.hid (G0_7.out.next hB8)
  have H0_8 := Lib.hid (H0_7.out.next hB8)
  clear W0_7 G0_7 H0_7
  go_wp2_with fail
  go_ret
  exact ⟨rfl, by go_grown⟩

theorem law_ReadFile {W : World} (s : ByteArray) (h : s.size ≤ maxLen) (_ : World) (hL : laidMet Tryz.prog Rows.fnExactReadFileRow.laid W) (hsh : W.ShapedOpen Tryz.prog) : Calls Tryz.prog 3 #[.string s] W (Yes W) :=
  ReadFile_walk s W (MaxIs.of hsh) (pow10_is (laidMet.tail (laidMet.tail hL))) (err_is (laidMet.tail (laidMet.tail (laidMet.tail (laidMet.tail (laidMet.tail hL))))))
end Go.Proofs.YtmdmjnhebbhjbaaGreatDoor
