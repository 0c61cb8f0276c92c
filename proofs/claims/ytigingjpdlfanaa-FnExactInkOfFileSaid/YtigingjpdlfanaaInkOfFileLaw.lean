/-
  The law of InkOfFile returns true: program and reference give the same ink, or refuse alike; the ink is the caller's own.
-/
import Derived.Test.YtigingjpdlfanaaIof
namespace Go.Proofs.Ytigingjpdlfanaa
set_option linter.unusedSimpArgs false
set_option linter.unusedVariables false
set_option maxRecDepth 20000
open Go.RowKit
open Go.ChangeShapes Go.WideShapes Go.Deep Go.Joins

set_option maxHeartbeats 16000000 in
set_option maxRecDepth 100000 in
theorem InkOfFile_walk {w : World} (f0 : Fl) (hg0 : FileGood w f0)   :
    Calls Try.prog 10 #[.agg #[.slice f0.ch.A f0.ch.l.length f0.ch.c, .slice f0.st.A f0.st.l.length f0.st.c, .slice f0.no.A f0.no.l.length f0.no.c]] w (Yes w) := by
  have HF0_0 := Lib.hid hg0.1
  have hcap0 := hg0.2
  clear hg0
  by_cases hle0 : flSz f0 ≤ 1048576
  rotate_left
  · go_enter Try.func10, Try.ntmps10
    go_wp2_with fail
    refine (szFile_no f0 1048576 _ (by first | exact HF0_0.out | exact HF0_0.out.alloc _ | exact (HF0_0.out.alloc _).alloc _ | exact ((HF0_0.out.alloc _).alloc _).alloc _ | exact HF0_0.out.drew | exact (HF0_0.out.drew).alloc _) hcap0 (by omega) hle0).mono ?_
    rintro e w1 ⟨rfl, hb1⟩
    have hB1 : Below w.heap.size w w1 := Below.next (by go_grown) hb1
    have hT1 : Below w.heap.size w w1 := hB1
    have hz1 := hb1.size
    (try simp only [World.size_alloc, World.size_drew] at hz1)
    have bx0_l1 : w.heap.size < w1.heap.size := by omega
    have bx0_0_1 : w1.cell? ⟨w.heap.size, 0, none⟩ = some (.slice f0.ch.A f0.ch.l.length f0.ch.c) := (hb1.cell (p := ⟨w.heap.size, 0, none⟩) (by (try simp only [World.size_alloc, World.size_drew]); omega)).trans (by go_simp)
    have bx0_1_1 : w1.cell? ⟨w.heap.size, 1, none⟩ = some (.slice f0.st.A f0.st.l.length f0.st.c) := (hb1.cell (p := ⟨w.heap.size, 1, none⟩) (by (try simp only [World.size_alloc, World.size_drew]); omega)).trans (by go_simp)
    have bx0_2_1 : w1.cell? ⟨w.heap.size, 2, none⟩ = some (.slice f0.no.A f0.no.l.length f0.no.c) := (hb1.cell (p := ⟨w.heap.size, 2, none⟩) (by (try simp only [World.size_alloc, World.size_drew]); omega)).trans (by go_simp)
    have HF0_1 := Lib.hid (HF0_0.out.below hT1)
    go_wp2_with fail
    go_ret
    exact ⟨rfl, by go_grown⟩
  have HLE0 := Lib.hid hle0
  obtain ⟨r0, hr0⟩ : ∃ r, 1048576 - flSz f0 = r := ⟨_, rfl⟩
  have hrb0 : r0 ≤ 1048576 := by omega
  have HR0 := Lib.hid hr0
  obtain ⟨hsz0, htx0, _⟩ := flSz_pl (f := f0) (by omega)
  obtain ⟨p0, hp0⟩ : ∃ p, filePl f0 = p := ⟨_, rfl⟩
  rw [hp0] at hsz0 htx0
  have HSZp0 := Lib.hid hsz0
  have HTXp0 := Lib.hid htx0
  have HP0 := Lib.hid hp0
  clear hsz0 htx0 hp0 hle0
  obtain ⟨mmp0, hmm0⟩ : ∃ mm, 1 + cntPl p0 = mm := ⟨_, rfl⟩
  have hmb0 : mmp0 ≤ 33554433 := by have := HSZp0.out.cnt; omega
  have HMMp0 := Lib.hid hmm0
  clear hmm0
  obtain ⟨v, hv⟩ := bool_of (FileOk p0)
  have HV : Is v (FileOk p0) := hv
  clear hv
  obtain ⟨x, hx0⟩ : ∃ z, idxZ p0.ch ⟨#[120]⟩ = z := ⟨_, rfl⟩
  have HXx := Lib.hid hx0
  clear hx0
  obtain ⟨y, hy0⟩ : ∃ z, idxZ p0.ch ⟨#[121]⟩ = z := ⟨_, rfl⟩
  have HXy := Lib.hid hy0
  clear hy0
  obtain ⟨t, ht0⟩ : ∃ z, idxZ p0.ch ⟨#[116]⟩ = z := ⟨_, rfl⟩
  have HXt := Lib.hid ht0
  clear ht0
  obtain ⟨⟨L, code⟩, hr⟩ : ∃ r, iofR v p0 x y t = r := ⟨_, rfl⟩
  obtain ⟨N, hN0⟩ : ∃ N, L.length = N := ⟨_, rfl⟩
  have hsm0 : smallP L := by have h := iofR_small v p0 x y t; rw [hr] at h; exact h
  have hN : N ≤ 1048576 := by have := hsm0.1; omega
  obtain ⟨mm, hmm0'⟩ : ∃ mm, 1 + 3 * cntP L = mm := ⟨_, rfl⟩
  have HCR := Lib.hid hr
  have HN := Lib.hid hN0
  have HSM : Hid (smallP L) := hsm0
  have HMM := Lib.hid hmm0'
  have hmb2 : mm ≤ 2881 := small_marks hsm0 hmm0'
  clear hr hN0 hsm0 hmm0'
  go_enter Try.func10, Try.ntmps10
  go_wp2_with fail
  refine (szFile_ok f0 1048576 _ (by first | exact HF0_0.out | exact HF0_0.out.alloc _ | exact (HF0_0.out.alloc _).alloc _ | exact ((HF0_0.out.alloc _).alloc _).alloc _ | exact HF0_0.out.drew | exact (HF0_0.out.drew).alloc _) hcap0 (by omega) HLE0.out HR0.out).mono ?_
  rintro e w1 ⟨rfl, hb1⟩
  have hB1 : Below w.heap.size w w1 := Below.next (by go_grown) hb1
  have hT1 : Below w.heap.size w w1 := hB1
  have hz1 := hb1.size
  (try simp only [World.size_alloc, World.size_drew] at hz1)
  have bx0_l1 : w.heap.size < w1.heap.size := by omega
  have bx0_0_1 : w1.cell? ⟨w.heap.size, 0, none⟩ = some (.slice f0.ch.A f0.ch.l.length f0.ch.c) := (hb1.cell (p := ⟨w.heap.size, 0, none⟩) (by (try simp only [World.size_alloc, World.size_drew]); omega)).trans (by go_simp)
  have bx0_1_1 : w1.cell? ⟨w.heap.size, 1, none⟩ = some (.slice f0.st.A f0.st.l.length f0.st.c) := (hb1.cell (p := ⟨w.heap.size, 1, none⟩) (by (try simp only [World.size_alloc, World.size_drew]); omega)).trans (by go_simp)
  have bx0_2_1 : w1.cell? ⟨w.heap.size, 2, none⟩ = some (.slice f0.no.A f0.no.l.length f0.no.c) := (hb1.cell (p := ⟨w.heap.size, 2, none⟩) (by (try simp only [World.size_alloc, World.size_drew]); omega)).trans (by go_simp)
  have HF0_1 := Lib.hid (HF0_0.out.below hT1)
  go_wp2_with fail
  refine (toFile_L f0 p0 _ (by first | exact HF0_1.out | exact HF0_1.out.alloc _ | exact (HF0_1.out.alloc _).alloc _ | exact ((HF0_1.out.alloc _).alloc _).alloc _ | exact HF0_1.out.drew | exact (HF0_1.out.drew).alloc _) HP0.out HSZp0.out).mono ?_
  rintro e w2 ⟨t2, rfl, hp2, ho2, hb2⟩
  have hB2 : Below w1.heap.size w1 w2 := Below.next (by go_grown) hb2
  have hT2 : Below w.heap.size w w2 := Below.next hT1 hB2
  have hz2 := hb2.size
  (try simp only [World.size_alloc, World.size_drew] at hz2)
  have bx0_l2 : w.heap.size < w2.heap.size := Nat.lt_of_lt_of_le bx0_l1 hB2.size
  have bx0_0_2 : w2.cell? ⟨w.heap.size, 0, none⟩ = some (.slice f0.ch.A f0.ch.l.length f0.ch.c) := (hB2.cell (p := ⟨w.heap.size, 0, none⟩) bx0_l1).trans bx0_0_1
  have bx0_1_2 : w2.cell? ⟨w.heap.size, 1, none⟩ = some (.slice f0.st.A f0.st.l.length f0.st.c) := (hB2.cell (p := ⟨w.heap.size, 1, none⟩) bx0_l1).trans bx0_1_1
  have bx0_2_2 : w2.cell? ⟨w.heap.size, 2, none⟩ = some (.slice f0.no.A f0.no.l.length f0.no.c) := (hB2.cell (p := ⟨w.heap.size, 2, none⟩) bx0_l1).trans bx0_2_1
  clear bx0_l1 bx0_0_1 bx0_1_1 bx0_2_1
  have HF0_2 := Lib.hid (HF0_0.out.below hT2)
  clear HF0_1
  have XS_2 : Hid (FileMine w2 (w1.heap.size) (w2.heap.size) t2) := by have h := ho2; (try simp only [World.size_alloc, World.size_drew] at h); exact h
  have XS_p : Hid (filePl t2 = p0) := hp2
  clear ho2 hp2
  go_wp2_with fail
  refine (sIof_L t2 p0 L N code v x y t _ (by first | exact XS_2.out.rd | exact XS_2.out.rd.alloc _ | exact (XS_2.out.rd.alloc _).alloc _ | exact ((XS_2.out.rd.alloc _).alloc _).alloc _ | exact (((XS_2.out.rd.alloc _).alloc _).alloc _).alloc _ | exact XS_2.out.rd.drew | exact (XS_2.out.rd.drew).alloc _) XS_p.out HSZp0.out HTXp0.out HV HXx HXy HXt HCR HN).mono ?_
  rintro e w3 ⟨A3, c3, T3, rfl, hp3, ho3, hb3⟩
  have hB3 : Below w2.heap.size w2 w3 := Below.next (by go_grown) hb3
  have hT3 : Below w.heap.size w w3 := Below.next hT2 hB3
  have hz3 := hb3.size
  (try simp only [World.size_alloc, World.size_drew] at hz3)
  have bx0_l3 : w.heap.size < w3.heap.size := Nat.lt_of_lt_of_le bx0_l2 hB3.size
  have bx0_0_3 : w3.cell? ⟨w.heap.size, 0, none⟩ = some (.slice f0.ch.A f0.ch.l.length f0.ch.c) := (hB3.cell (p := ⟨w.heap.size, 0, none⟩) bx0_l2).trans bx0_0_2
  have bx0_1_3 : w3.cell? ⟨w.heap.size, 1, none⟩ = some (.slice f0.st.A f0.st.l.length f0.st.c) := (hB3.cell (p := ⟨w.heap.size, 1, none⟩) bx0_l2).trans bx0_1_2
  have bx0_2_3 : w3.cell? ⟨w.heap.size, 2, none⟩ = some (.slice f0.no.A f0.no.l.length f0.no.c) := (hB3.cell (p := ⟨w.heap.size, 2, none⟩) bx0_l2).trans bx0_2_2
  clear bx0_l2 bx0_0_2 bx0_1_2 bx0_2_2
  have HF0_3 := Lib.hid (HF0_0.out.below hT3)
  clear HF0_2
  have XS_3 := Lib.hid (XS_2.out.next hB3)
  clear XS_2
  have W0_3 : Hid (InkOwn w3 (w2.heap.size) (w3.heap.size) (.slice A3 N c3) T3) := by have h := ho3; (try simp only [World.size_alloc, World.size_drew] at h); exact h
  clear ho3
  have W0_p := Lib.hid hp3
  have W0_l := Lib.hid (small_len hp3 HN.out)
  have W0_s := small_big HSM.out hp3
  clear hp3
  go_wp2_with fail
  refine (toFile_L f0 p0 _ (by first | exact HF0_3.out | exact HF0_3.out.alloc _ | exact (HF0_3.out.alloc _).alloc _ | exact ((HF0_3.out.alloc _).alloc _).alloc _ | exact HF0_3.out.drew | exact (HF0_3.out.drew).alloc _) HP0.out HSZp0.out).mono ?_
  rintro e w4 ⟨t4, rfl, hp4, ho4, hb4⟩
  have hB4 : Below w3.heap.size w3 w4 := Below.next (by go_grown) hb4
  have hT4 : Below w.heap.size w w4 := Below.next hT3 hB4
  have hz4 := hb4.size
  (try simp only [World.size_alloc, World.size_drew] at hz4)
  have bx0_l4 : w.heap.size < w4.heap.size := Nat.lt_of_lt_of_le bx0_l3 hB4.size
  have bx0_0_4 : w4.cell? ⟨w.heap.size, 0, none⟩ = some (.slice f0.ch.A f0.ch.l.length f0.ch.c) := (hB4.cell (p := ⟨w.heap.size, 0, none⟩) bx0_l3).trans bx0_0_3
  have bx0_1_4 : w4.cell? ⟨w.heap.size, 1, none⟩ = some (.slice f0.st.A f0.st.l.length f0.st.c) := (hB4.cell (p := ⟨w.heap.size, 1, none⟩) bx0_l3).trans bx0_1_3
  have bx0_2_4 : w4.cell? ⟨w.heap.size, 2, none⟩ = some (.slice f0.no.A f0.no.l.length f0.no.c) := (hB4.cell (p := ⟨w.heap.size, 2, none⟩) bx0_l3).trans bx0_2_3
  have bW0_l4 : w3.heap.size < w4.heap.size := by omega
  have bW0_0_4 : w4.cell? ⟨w3.heap.size, 0, none⟩ = some (.slice A3 N c3) := (hb4.cell (p := ⟨w3.heap.size, 0, none⟩) (by (try simp only [World.size_alloc, World.size_drew]); omega)).trans (by go_simp)
  clear bx0_l3 bx0_0_3 bx0_1_3 bx0_2_3
  have W0_4 := Lib.hid (W0_3.out.next hB4)
  clear W0_3
  have HF0_4 := Lib.hid (HF0_0.out.below hT4)
  clear HF0_3
  have X0_4 : Hid (FileMine w4 (w3.heap.size + 1) (w4.heap.size) t4) := by have h := ho4; (try simp only [World.size_alloc, World.size_drew] at h); exact h
  have X0_p : Hid (filePl t4 = p0) := hp4
  clear ho4 hp4
  go_wp2_with fail
  refine (iIof_L t4 p0 L N code v x y t _ (by first | exact X0_4.out.rd | exact X0_4.out.rd.alloc _ | exact (X0_4.out.rd.alloc _).alloc _ | exact ((X0_4.out.rd.alloc _).alloc _).alloc _ | exact (((X0_4.out.rd.alloc _).alloc _).alloc _).alloc _ | exact X0_4.out.rd.drew | exact (X0_4.out.rd.drew).alloc _) X0_p.out HSZp0.out HTXp0.out HV HXx HXy HXt HCR HN).mono ?_
  rintro e w5 ⟨A5, c5, T5, rfl, hp5, ho5, hb5⟩
  have hB5 : Below w4.heap.size w4 w5 := Below.next (by go_grown) hb5
  have hT5 : Below w.heap.size w w5 := Below.next hT4 hB5
  have hz5 := hb5.size
  (try simp only [World.size_alloc, World.size_drew] at hz5)
  have bx0_l5 : w.heap.size < w5.heap.size := Nat.lt_of_lt_of_le bx0_l4 hB5.size
  have bx0_0_5 : w5.cell? ⟨w.heap.size, 0, none⟩ = some (.slice f0.ch.A f0.ch.l.length f0.ch.c) := (hB5.cell (p := ⟨w.heap.size, 0, none⟩) bx0_l4).trans bx0_0_4
  have bx0_1_5 : w5.cell? ⟨w.heap.size, 1, none⟩ = some (.slice f0.st.A f0.st.l.length f0.st.c) := (hB5.cell (p := ⟨w.heap.size, 1, none⟩) bx0_l4).trans bx0_1_4
  have bx0_2_5 : w5.cell? ⟨w.heap.size, 2, none⟩ = some (.slice f0.no.A f0.no.l.length f0.no.c) := (hB5.cell (p := ⟨w.heap.size, 2, none⟩) bx0_l4).trans bx0_2_4
  have bW0_l5 : w3.heap.size < w5.heap.size := Nat.lt_of_lt_of_le bW0_l4 hB5.size
  have bW0_0_5 : w5.cell? ⟨w3.heap.size, 0, none⟩ = some (.slice A3 N c3) := (hB5.cell (p := ⟨w3.heap.size, 0, none⟩) bW0_l4).trans bW0_0_4
  have bX0_l5 : w4.heap.size < w5.heap.size := by omega
  have bX0_0_5 : w5.cell? ⟨w4.heap.size, 0, none⟩ = some (.slice t4.ch.A t4.ch.l.length t4.ch.c) := (hb5.cell (p := ⟨w4.heap.size, 0, none⟩) (by (try simp only [World.size_alloc, World.size_drew]); omega)).trans (by go_simp)
  have bX0_1_5 : w5.cell? ⟨w4.heap.size, 1, none⟩ = some (.slice t4.st.A t4.st.l.length t4.st.c) := (hb5.cell (p := ⟨w4.heap.size, 1, none⟩) (by (try simp only [World.size_alloc, World.size_drew]); omega)).trans (by go_simp)
  have bX0_2_5 : w5.cell? ⟨w4.heap.size, 2, none⟩ = some (.slice t4.no.A t4.no.l.length t4.no.c) := (hb5.cell (p := ⟨w4.heap.size, 2, none⟩) (by (try simp only [World.size_alloc, World.size_drew]); omega)).trans (by go_simp)
  clear bx0_l4 bx0_0_4 bx0_1_4 bx0_2_4 bW0_l4 bW0_0_4
  have W0_5 := Lib.hid (W0_4.out.next hB5)
  clear W0_4
  have HF0_5 := Lib.hid (HF0_0.out.below hT5)
  clear HF0_4
  have X0_5 := Lib.hid (X0_4.out.next hB5)
  clear X0_4
  have G0_5 : Hid (InkOwn w5 (w4.heap.size + 1) (w5.heap.size) (.slice A5 N c5) T5) := by have h := ho5; (try simp only [World.size_alloc, World.size_drew] at h); exact h
  clear ho5
  have G0_p := Lib.hid hp5
  have G0_l := Lib.hid (small_len hp5 HN.out)
  have G0_s := small_big HSM.out hp5
  clear hp5
  go_wp2_with fail
  refine (eqInk_same _ _ N _ _ T5 T3 _ (by first | exact (G0_5.out.rd G0_l.out) | exact (G0_5.out.rd G0_l.out).alloc _ | exact ((G0_5.out.rd G0_l.out).alloc _).alloc _ | exact (((G0_5.out.rd G0_l.out).alloc _).alloc _).alloc _ | exact ((((G0_5.out.rd G0_l.out).alloc _).alloc _).alloc _).alloc _ | exact (G0_5.out.rd G0_l.out).drew | exact ((G0_5.out.rd G0_l.out).drew).alloc _) (by first | exact (W0_5.out.rd W0_l.out) | exact (W0_5.out.rd W0_l.out).alloc _ | exact ((W0_5.out.rd W0_l.out).alloc _).alloc _ | exact (((W0_5.out.rd W0_l.out).alloc _).alloc _).alloc _ | exact ((((W0_5.out.rd W0_l.out).alloc _).alloc _).alloc _).alloc _ | exact (W0_5.out.rd W0_l.out).drew | exact ((W0_5.out.rd W0_l.out).drew).alloc _) (G0_p.out.trans W0_p.out.symm) G0_s hN).mono ?_
  rintro e w6 ⟨rfl, hb6⟩
  have hB6 : Below w5.heap.size w5 w6 := Below.next (by go_grown) hb6
  have hT6 : Below w.heap.size w w6 := Below.next hT5 hB6
  have hz6 := hb6.size
  (try simp only [World.size_alloc, World.size_drew] at hz6)
  have bx0_l6 : w.heap.size < w6.heap.size := Nat.lt_of_lt_of_le bx0_l5 hB6.size
  have bx0_0_6 : w6.cell? ⟨w.heap.size, 0, none⟩ = some (.slice f0.ch.A f0.ch.l.length f0.ch.c) := (hB6.cell (p := ⟨w.heap.size, 0, none⟩) bx0_l5).trans bx0_0_5
  have bx0_1_6 : w6.cell? ⟨w.heap.size, 1, none⟩ = some (.slice f0.st.A f0.st.l.length f0.st.c) := (hB6.cell (p := ⟨w.heap.size, 1, none⟩) bx0_l5).trans bx0_1_5
  have bx0_2_6 : w6.cell? ⟨w.heap.size, 2, none⟩ = some (.slice f0.no.A f0.no.l.length f0.no.c) := (hB6.cell (p := ⟨w.heap.size, 2, none⟩) bx0_l5).trans bx0_2_5
  have bW0_l6 : w3.heap.size < w6.heap.size := Nat.lt_of_lt_of_le bW0_l5 hB6.size
  have bW0_0_6 : w6.cell? ⟨w3.heap.size, 0, none⟩ = some (.slice A3 N c3) := (hB6.cell (p := ⟨w3.heap.size, 0, none⟩) bW0_l5).trans bW0_0_5
  have bX0_l6 : w4.heap.size < w6.heap.size := Nat.lt_of_lt_of_le bX0_l5 hB6.size
  have bX0_0_6 : w6.cell? ⟨w4.heap.size, 0, none⟩ = some (.slice t4.ch.A t4.ch.l.length t4.ch.c) := (hB6.cell (p := ⟨w4.heap.size, 0, none⟩) bX0_l5).trans bX0_0_5
  have bX0_1_6 : w6.cell? ⟨w4.heap.size, 1, none⟩ = some (.slice t4.st.A t4.st.l.length t4.st.c) := (hB6.cell (p := ⟨w4.heap.size, 1, none⟩) bX0_l5).trans bX0_1_5
  have bX0_2_6 : w6.cell? ⟨w4.heap.size, 2, none⟩ = some (.slice t4.no.A t4.no.l.length t4.no.c) := (hB6.cell (p := ⟨w4.heap.size, 2, none⟩) bX0_l5).trans bX0_2_5
  have bG0_l6 : w5.heap.size < w6.heap.size := by omega
  have bG0_0_6 : w6.cell? ⟨w5.heap.size, 0, none⟩ = some (.slice A5 N c5) := (hb6.cell (p := ⟨w5.heap.size, 0, none⟩) (by (try simp only [World.size_alloc, World.size_drew]); omega)).trans (by go_simp)
  clear bx0_l5 bx0_0_5 bx0_1_5 bx0_2_5 bW0_l5 bW0_0_5 bX0_l5 bX0_0_5 bX0_1_5 bX0_2_5
  have W0_6 := Lib.hid (W0_5.out.next hB6)
  have G0_6 := Lib.hid (G0_5.out.next hB6)
  clear W0_5 G0_5
  have HF0_6 := Lib.hid (HF0_0.out.below hT6)
  clear HF0_5
  have X0_6 := Lib.hid (X0_5.out.next hB6)
  clear X0_5
  go_wp2_with fail
  refine wp_region_held_drew (S := (fun w' => (∀ kb ko, kb < w6.heap.size → w'.cell? ⟨kb, ko, none⟩ = w6.cell? ⟨kb, ko, none⟩) ∧ w6.heap.size ≤ w'.heap.size ∧ Below w6.heap.size w6 w')) (by kernel_rfl) ?_ (fun hHeld => ?_)
  · (try dsimp only); (first | exact SB.mk hkB | exact SB.mk ((Below.refl _ _).drew) | (refine SB.mk ?_; go_grown; done) | (go_split_ands; refine SB.mk (Below.drew ?_); assumption) | (go_split_ands; refine SB.mk ?_; go_grown; done))
  first | (refine take_on (i := 0) (v := ?_) rfl (by kernel_rfl) (by kernel_rfl) (by kernel_rfl) (fun _ _ _ h => h) rfl ?_ (by assumption) ?_; rotate_left; · (intro w' hSw; (try dsimp only at hSw); go_simp; (try with_reducible rfl))) | (refine take_off (i := 0) rfl (by kernel_rfl) (by kernel_rfl) (by kernel_rfl) (fun _ _ _ h => h) rfl (by assumption) ?_)
  (try simp only [Act.put, List.setIfInBounds_toArray, List.set_cons_zero, List.set_cons_succ])
  first | (refine take_on (i := 1) (v := ?_) rfl (by kernel_rfl) (by kernel_rfl) (by kernel_rfl) (fun _ _ _ h => h) rfl ?_ (by assumption) ?_; rotate_left; · (intro w' hSw; (try dsimp only at hSw); go_simp; (try with_reducible rfl))) | (refine take_off (i := 1) rfl (by kernel_rfl) (by kernel_rfl) (by kernel_rfl) (fun _ _ _ h => h) rfl (by assumption) ?_)
  (try simp only [Act.put, List.setIfInBounds_toArray, List.set_cons_zero, List.set_cons_succ])
  refine wpAnyH_ready (rs := [2]) (by kernel_rfl) (by simp) ?_
  refine AllReadyH.cons rfl (fun K hK => ?_) AllReadyH.nil
  rw [if_pos (by rfl)]
  go_simp
  go_at_call 22
  refine (toFile_L f0 p0 _ (by first | exact HF0_6.out | exact HF0_6.out.alloc _ | exact (HF0_6.out.alloc _).alloc _ | exact ((HF0_6.out.alloc _).alloc _).alloc _ | exact HF0_6.out.drew | exact (HF0_6.out.drew).alloc _) HP0.out HSZp0.out).mono ?_
  rintro e w7 ⟨t7, rfl, hp7, ho7, hb7⟩
  have hB7 : Below w6.heap.size w6 w7 := Below.next (by go_grown) hb7
  have hT7 : Below w.heap.size w w7 := Below.next hT6 hB7
  have hz7 := hb7.size
  (try simp only [World.size_alloc, World.size_drew] at hz7)
  have bx0_l7 : w.heap.size < w7.heap.size := Nat.lt_of_lt_of_le bx0_l6 hB7.size
  have bx0_0_7 : w7.cell? ⟨w.heap.size, 0, none⟩ = some (.slice f0.ch.A f0.ch.l.length f0.ch.c) := (hB7.cell (p := ⟨w.heap.size, 0, none⟩) bx0_l6).trans bx0_0_6
  have bx0_1_7 : w7.cell? ⟨w.heap.size, 1, none⟩ = some (.slice f0.st.A f0.st.l.length f0.st.c) := (hB7.cell (p := ⟨w.heap.size, 1, none⟩) bx0_l6).trans bx0_1_6
  have bx0_2_7 : w7.cell? ⟨w.heap.size, 2, none⟩ = some (.slice f0.no.A f0.no.l.length f0.no.c) := (hB7.cell (p := ⟨w.heap.size, 2, none⟩) bx0_l6).trans bx0_2_6
  have bW0_l7 : w3.heap.size < w7.heap.size := Nat.lt_of_lt_of_le bW0_l6 hB7.size
  have bW0_0_7 : w7.cell? ⟨w3.heap.size, 0, none⟩ = some (.slice A3 N c3) := (hB7.cell (p := ⟨w3.heap.size, 0, none⟩) bW0_l6).trans bW0_0_6
  have bX0_l7 : w4.heap.size < w7.heap.size := Nat.lt_of_lt_of_le bX0_l6 hB7.size
  have bX0_0_7 : w7.cell? ⟨w4.heap.size, 0, none⟩ = some (.slice t4.ch.A t4.ch.l.length t4.ch.c) := (hB7.cell (p := ⟨w4.heap.size, 0, none⟩) bX0_l6).trans bX0_0_6
  have bX0_1_7 : w7.cell? ⟨w4.heap.size, 1, none⟩ = some (.slice t4.st.A t4.st.l.length t4.st.c) := (hB7.cell (p := ⟨w4.heap.size, 1, none⟩) bX0_l6).trans bX0_1_6
  have bX0_2_7 : w7.cell? ⟨w4.heap.size, 2, none⟩ = some (.slice t4.no.A t4.no.l.length t4.no.c) := (hB7.cell (p := ⟨w4.heap.size, 2, none⟩) bX0_l6).trans bX0_2_6
  have bG0_l7 : w5.heap.size < w7.heap.size := Nat.lt_of_lt_of_le bG0_l6 hB7.size
  have bG0_0_7 : w7.cell? ⟨w5.heap.size, 0, none⟩ = some (.slice A5 N c5) := (hB7.cell (p := ⟨w5.heap.size, 0, none⟩) bG0_l6).trans bG0_0_6
  clear bx0_l6 bx0_0_6 bx0_1_6 bx0_2_6 bW0_l6 bW0_0_6 bX0_l6 bX0_0_6 bX0_1_6 bX0_2_6 bG0_l6 bG0_0_6
  have W0_7 := Lib.hid (W0_6.out.next hB7)
  have G0_7 := Lib.hid (G0_6.out.next hB7)
  clear W0_6 G0_6
  have HF0_7 := Lib.hid (HF0_0.out.below hT7)
  clear HF0_6
  have X0_7 := Lib.hid (X0_6.out.next hB7)
  clear X0_6
  refine hK.out _ _ ?_ (fun hHeld2 => ?_)
  · (try dsimp only); exact SB.mk (Below.next (by go_grown) hb7)
  have hQ0 : Below w6.heap.size w6 w7 := Below.next (by go_grown) hb7
  clear hK K hHeld; have hHeld := hHeld2; clear hHeld2; (try simp only [Act.put, List.setIfInBounds_toArray, List.set_cons_zero, List.set_cons_succ])
  have XE_7 : Hid (FileMine w7 (w6.heap.size) (w7.heap.size) t7) := by have h := ho7; (try simp only [World.size_alloc, World.size_drew] at h); exact h
  have XE_p : Hid (filePl t7 = p0) := hp7
  clear ho7 hp7
  refine wpAnyH_ready (rs := [3]) (by kernel_rfl) (by simp) ?_
  refine AllReadyH.cons rfl (fun K hK => ?_) AllReadyH.nil
  rw [if_pos (by rfl)]
  go_simp
  go_at_call 15
  refine (eqFile_L t4 t7 p0 _ (by first | exact X0_7.out.rd | exact X0_7.out.rd.alloc _ | exact (X0_7.out.rd.alloc _).alloc _ | exact ((X0_7.out.rd.alloc _).alloc _).alloc _ | exact (((X0_7.out.rd.alloc _).alloc _).alloc _).alloc _ | exact X0_7.out.rd.drew | exact (X0_7.out.rd.drew).alloc _) (by first | exact XE_7.out.rd | exact XE_7.out.rd.alloc _ | exact (XE_7.out.rd.alloc _).alloc _ | exact ((XE_7.out.rd.alloc _).alloc _).alloc _ | exact (((XE_7.out.rd.alloc _).alloc _).alloc _).alloc _ | exact XE_7.out.rd.drew | exact (XE_7.out.rd.drew).alloc _) X0_p.out XE_p.out HSZp0.out).mono ?_
  rintro e w8 ⟨rfl, hb8⟩
  have hB8 : Below w7.heap.size w7 w8 := Below.next (by go_grown) hb8
  have hT8 : Below w.heap.size w w8 := Below.next hT7 hB8
  have hz8 := hb8.size
  (try simp only [World.size_alloc, World.size_drew] at hz8)
  have bx0_l8 : w.heap.size < w8.heap.size := Nat.lt_of_lt_of_le bx0_l7 hB8.size
  have bx0_0_8 : w8.cell? ⟨w.heap.size, 0, none⟩ = some (.slice f0.ch.A f0.ch.l.length f0.ch.c) := (hB8.cell (p := ⟨w.heap.size, 0, none⟩) bx0_l7).trans bx0_0_7
  have bx0_1_8 : w8.cell? ⟨w.heap.size, 1, none⟩ = some (.slice f0.st.A f0.st.l.length f0.st.c) := (hB8.cell (p := ⟨w.heap.size, 1, none⟩) bx0_l7).trans bx0_1_7
  have bx0_2_8 : w8.cell? ⟨w.heap.size, 2, none⟩ = some (.slice f0.no.A f0.no.l.length f0.no.c) := (hB8.cell (p := ⟨w.heap.size, 2, none⟩) bx0_l7).trans bx0_2_7
  have bW0_l8 : w3.heap.size < w8.heap.size := Nat.lt_of_lt_of_le bW0_l7 hB8.size
  have bW0_0_8 : w8.cell? ⟨w3.heap.size, 0, none⟩ = some (.slice A3 N c3) := (hB8.cell (p := ⟨w3.heap.size, 0, none⟩) bW0_l7).trans bW0_0_7
  have bX0_l8 : w4.heap.size < w8.heap.size := Nat.lt_of_lt_of_le bX0_l7 hB8.size
  have bX0_0_8 : w8.cell? ⟨w4.heap.size, 0, none⟩ = some (.slice t4.ch.A t4.ch.l.length t4.ch.c) := (hB8.cell (p := ⟨w4.heap.size, 0, none⟩) bX0_l7).trans bX0_0_7
  have bX0_1_8 : w8.cell? ⟨w4.heap.size, 1, none⟩ = some (.slice t4.st.A t4.st.l.length t4.st.c) := (hB8.cell (p := ⟨w4.heap.size, 1, none⟩) bX0_l7).trans bX0_1_7
  have bX0_2_8 : w8.cell? ⟨w4.heap.size, 2, none⟩ = some (.slice t4.no.A t4.no.l.length t4.no.c) := (hB8.cell (p := ⟨w4.heap.size, 2, none⟩) bX0_l7).trans bX0_2_7
  have bG0_l8 : w5.heap.size < w8.heap.size := Nat.lt_of_lt_of_le bG0_l7 hB8.size
  have bG0_0_8 : w8.cell? ⟨w5.heap.size, 0, none⟩ = some (.slice A5 N c5) := (hB8.cell (p := ⟨w5.heap.size, 0, none⟩) bG0_l7).trans bG0_0_7
  clear bx0_l7 bx0_0_7 bx0_1_7 bx0_2_7 bW0_l7 bW0_0_7 bX0_l7 bX0_0_7 bX0_1_7 bX0_2_7 bG0_l7 bG0_0_7
  have W0_8 := Lib.hid (W0_7.out.next hB8)
  have G0_8 := Lib.hid (G0_7.out.next hB8)
  clear W0_7 G0_7
  have HF0_8 := Lib.hid (HF0_0.out.below hT8)
  clear HF0_7
  have X0_8 := Lib.hid (X0_7.out.next hB8)
  clear X0_7
  refine hK.out _ _ ?_ (fun hHeld2 => ?_)
  · (try dsimp only); exact SB.mk (Below.next hQ0 hB8)
  have hQ0 : Below w6.heap.size w6 w8 := Below.next hQ0 hB8
  clear hK K hHeld; have hHeld := hHeld2; clear hHeld2; (try simp only [Act.put, List.setIfInBounds_toArray, List.set_cons_zero, List.set_cons_succ])
  first | (refine take_on (i := 4) (v := ?_) rfl (by kernel_rfl) (by kernel_rfl) (by kernel_rfl) (fun _ _ _ h => h) rfl ?_ (by assumption) ?_; rotate_left; · (intro w' hSw; (try dsimp only at hSw); go_simp; (try with_reducible rfl))) | (refine take_off (i := 4) rfl (by kernel_rfl) (by kernel_rfl) (by kernel_rfl) (fun _ _ _ h => h) rfl (by assumption) ?_)
  (try simp only [Act.put, List.setIfInBounds_toArray, List.set_cons_zero, List.set_cons_succ])
  refine wpAnyH_done (by kernel_rfl) ?_ _
  clear hHeld
  clear hQ0
  go_wp2_with fail
  refine (markFile_L t4 (w3.heap.size + 1) (w4.heap.size) p0 mmp0 _ (by first | exact X0_8.out | exact X0_8.out.alloc _ | exact (X0_8.out.alloc _).alloc _ | exact ((X0_8.out.alloc _).alloc _).alloc _ | exact (((X0_8.out.alloc _).alloc _).alloc _).alloc _ | exact X0_8.out.drew | exact (X0_8.out.drew).alloc _) (by omega) X0_p.out HSZp0.out HMMp0.out).mono ?_
  rintro e w9 ⟨rfl, _, hc9⟩
  have hz9 : w8.heap.size ≤ w9.heap.size := hc9.size
  have hT9 : Below w.heap.size w w9 := hT8.trans ((hc9.below (by omega)).mono (by omega))
  have W0_9 := Lib.hid (W0_8.out.chg hc9 (by omega))
  have G0_9 := Lib.hid (G0_8.out.chg hc9 (by omega))
  have bx0_l9 : w.heap.size < w9.heap.size := Nat.lt_of_lt_of_le bx0_l8 hz9
  have bx0_0_9 : w9.cell? ⟨w.heap.size, 0, none⟩ = some (.slice f0.ch.A f0.ch.l.length f0.ch.c) := (hc9.cell 0 bx0_l8 (by omega)).trans bx0_0_8
  have bx0_1_9 : w9.cell? ⟨w.heap.size, 1, none⟩ = some (.slice f0.st.A f0.st.l.length f0.st.c) := (hc9.cell 1 bx0_l8 (by omega)).trans bx0_1_8
  have bx0_2_9 : w9.cell? ⟨w.heap.size, 2, none⟩ = some (.slice f0.no.A f0.no.l.length f0.no.c) := (hc9.cell 2 bx0_l8 (by omega)).trans bx0_2_8
  have bW0_l9 : w3.heap.size < w9.heap.size := Nat.lt_of_lt_of_le bW0_l8 hz9
  have bW0_0_9 : w9.cell? ⟨w3.heap.size, 0, none⟩ = some (.slice A3 N c3) := (hc9.cell 0 bW0_l8 (by omega)).trans bW0_0_8
  have bX0_l9 : w4.heap.size < w9.heap.size := Nat.lt_of_lt_of_le bX0_l8 hz9
  have bX0_0_9 : w9.cell? ⟨w4.heap.size, 0, none⟩ = some (.slice t4.ch.A t4.ch.l.length t4.ch.c) := (hc9.cell 0 bX0_l8 (by omega)).trans bX0_0_8
  have bX0_1_9 : w9.cell? ⟨w4.heap.size, 1, none⟩ = some (.slice t4.st.A t4.st.l.length t4.st.c) := (hc9.cell 1 bX0_l8 (by omega)).trans bX0_1_8
  have bX0_2_9 : w9.cell? ⟨w4.heap.size, 2, none⟩ = some (.slice t4.no.A t4.no.l.length t4.no.c) := (hc9.cell 2 bX0_l8 (by omega)).trans bX0_2_8
  have bG0_l9 : w5.heap.size < w9.heap.size := Nat.lt_of_lt_of_le bG0_l8 hz9
  have bG0_0_9 : w9.cell? ⟨w5.heap.size, 0, none⟩ = some (.slice A5 N c5) := (hc9.cell 0 bG0_l8 (by omega)).trans bG0_0_8
  have HF0_9 := Lib.hid (HF0_0.out.below hT9)
  clear W0_8 G0_8 X0_8 HF0_8 bx0_l8 bx0_0_8 bx0_1_8 bx0_2_8 bW0_l8 bW0_0_8 bX0_l8 bX0_0_8 bX0_1_8 bX0_2_8 bG0_l8 bG0_0_8
  go_wp2_with fail
  refine (eqInk_same _ _ N _ _ T5 T3 _ (by first | exact (G0_9.out.rd G0_l.out) | exact (G0_9.out.rd G0_l.out).alloc _ | exact ((G0_9.out.rd G0_l.out).alloc _).alloc _ | exact (((G0_9.out.rd G0_l.out).alloc _).alloc _).alloc _ | exact ((((G0_9.out.rd G0_l.out).alloc _).alloc _).alloc _).alloc _ | exact (G0_9.out.rd G0_l.out).drew | exact ((G0_9.out.rd G0_l.out).drew).alloc _) (by first | exact (W0_9.out.rd W0_l.out) | exact (W0_9.out.rd W0_l.out).alloc _ | exact ((W0_9.out.rd W0_l.out).alloc _).alloc _ | exact (((W0_9.out.rd W0_l.out).alloc _).alloc _).alloc _ | exact ((((W0_9.out.rd W0_l.out).alloc _).alloc _).alloc _).alloc _ | exact (W0_9.out.rd W0_l.out).drew | exact ((W0_9.out.rd W0_l.out).drew).alloc _) (G0_p.out.trans W0_p.out.symm) G0_s hN).mono ?_
  rintro e w10 ⟨rfl, hb10⟩
  have hB10 : Below w9.heap.size w9 w10 := Below.next (by go_grown) hb10
  have hT10 : Below w.heap.size w w10 := Below.next hT9 hB10
  have hz10 := hb10.size
  (try simp only [World.size_alloc, World.size_drew] at hz10)
  have bx0_l10 : w.heap.size < w10.heap.size := Nat.lt_of_lt_of_le bx0_l9 hB10.size
  have bx0_0_10 : w10.cell? ⟨w.heap.size, 0, none⟩ = some (.slice f0.ch.A f0.ch.l.length f0.ch.c) := (hB10.cell (p := ⟨w.heap.size, 0, none⟩) bx0_l9).trans bx0_0_9
  have bx0_1_10 : w10.cell? ⟨w.heap.size, 1, none⟩ = some (.slice f0.st.A f0.st.l.length f0.st.c) := (hB10.cell (p := ⟨w.heap.size, 1, none⟩) bx0_l9).trans bx0_1_9
  have bx0_2_10 : w10.cell? ⟨w.heap.size, 2, none⟩ = some (.slice f0.no.A f0.no.l.length f0.no.c) := (hB10.cell (p := ⟨w.heap.size, 2, none⟩) bx0_l9).trans bx0_2_9
  have bW0_l10 : w3.heap.size < w10.heap.size := Nat.lt_of_lt_of_le bW0_l9 hB10.size
  have bW0_0_10 : w10.cell? ⟨w3.heap.size, 0, none⟩ = some (.slice A3 N c3) := (hB10.cell (p := ⟨w3.heap.size, 0, none⟩) bW0_l9).trans bW0_0_9
  have bG0_l10 : w5.heap.size < w10.heap.size := Nat.lt_of_lt_of_le bG0_l9 hB10.size
  have bG0_0_10 : w10.cell? ⟨w5.heap.size, 0, none⟩ = some (.slice A5 N c5) := (hB10.cell (p := ⟨w5.heap.size, 0, none⟩) bG0_l9).trans bG0_0_9
  clear bx0_l9 bx0_0_9 bx0_1_9 bx0_2_9 bW0_l9 bW0_0_9 bG0_l9 bG0_0_9
  have W0_10 := Lib.hid (W0_9.out.next hB10)
  have G0_10 := Lib.hid (G0_9.out.next hB10)
  clear W0_9 G0_9
  have HF0_10 := Lib.hid (HF0_0.out.below hT10)
  clear HF0_9
  go_wp2_with fail
  refine (markInk_L _ _ _ N _ mm T5 L _ (by first | exact G0_10.out | exact G0_10.out.alloc _ | exact (G0_10.out.alloc _).alloc _ | exact ((G0_10.out.alloc _).alloc _).alloc _ | exact (((G0_10.out.alloc _).alloc _).alloc _).alloc _ | exact G0_10.out.drew | exact (G0_10.out.drew).alloc _) G0_p.out HN.out HSM.out HMM.out).mono ?_
  rintro e w11 ⟨rfl, ho11, hc11⟩
  have hz11 : w10.heap.size ≤ w11.heap.size := hc11.size
  have hT11 : Below w.heap.size w w11 := hT10.trans ((hc11.below (by omega)).mono (by omega))
  have W0_11 := Lib.hid (W0_10.out.chg hc11 (by omega))
  have G0_11 : Hid (InkOwn w11 (w4.heap.size + 1) (w5.heap.size) (.slice A5 N c5) (mkS 1 T5)) := ho11
  clear ho11
  have bx0_l11 : w.heap.size < w11.heap.size := Nat.lt_of_lt_of_le bx0_l10 hz11
  have bx0_0_11 : w11.cell? ⟨w.heap.size, 0, none⟩ = some (.slice f0.ch.A f0.ch.l.length f0.ch.c) := (hc11.cell 0 bx0_l10 (by omega)).trans bx0_0_10
  have bx0_1_11 : w11.cell? ⟨w.heap.size, 1, none⟩ = some (.slice f0.st.A f0.st.l.length f0.st.c) := (hc11.cell 1 bx0_l10 (by omega)).trans bx0_1_10
  have bx0_2_11 : w11.cell? ⟨w.heap.size, 2, none⟩ = some (.slice f0.no.A f0.no.l.length f0.no.c) := (hc11.cell 2 bx0_l10 (by omega)).trans bx0_2_10
  have bW0_l11 : w3.heap.size < w11.heap.size := Nat.lt_of_lt_of_le bW0_l10 hz11
  have bW0_0_11 : w11.cell? ⟨w3.heap.size, 0, none⟩ = some (.slice A3 N c3) := (hc11.cell 0 bW0_l10 (by omega)).trans bW0_0_10
  have bG0_l11 : w5.heap.size < w11.heap.size := Nat.lt_of_lt_of_le bG0_l10 hz11
  have bG0_0_11 : w11.cell? ⟨w5.heap.size, 0, none⟩ = some (.slice A5 N c5) := (hc11.cell 0 bG0_l10 (by omega)).trans bG0_0_10
  have HF0_11 := Lib.hid (HF0_0.out.below hT11)
  clear W0_10 G0_10 HF0_10 bx0_l10 bx0_0_10 bx0_1_10 bx0_2_10 bW0_l10 bW0_0_10 bG0_l10 bG0_0_10
  go_wp2_with fail
  refine (heldInk_L _ N _ mm T5 L _ (by first | exact (G0_11.out.rdM G0_l.out) | exact (G0_11.out.rdM G0_l.out).alloc _ | exact ((G0_11.out.rdM G0_l.out).alloc _).alloc _ | exact (((G0_11.out.rdM G0_l.out).alloc _).alloc _).alloc _ | exact ((((G0_11.out.rdM G0_l.out).alloc _).alloc _).alloc _).alloc _ | exact (G0_11.out.rdM G0_l.out).drew | exact ((G0_11.out.rdM G0_l.out).drew).alloc _) G0_p.out HN.out HSM.out HMM.out).mono ?_
  rintro e w12 ⟨rfl, hb12⟩
  have hB12 : Below w11.heap.size w11 w12 := Below.next (by go_grown) hb12
  have hT12 : Below w.heap.size w w12 := Below.next hT11 hB12
  have hz12 := hb12.size
  (try simp only [World.size_alloc, World.size_drew] at hz12)
  have bx0_l12 : w.heap.size < w12.heap.size := Nat.lt_of_lt_of_le bx0_l11 hB12.size
  have bx0_0_12 : w12.cell? ⟨w.heap.size, 0, none⟩ = some (.slice f0.ch.A f0.ch.l.length f0.ch.c) := (hB12.cell (p := ⟨w.heap.size, 0, none⟩) bx0_l11).trans bx0_0_11
  have bx0_1_12 : w12.cell? ⟨w.heap.size, 1, none⟩ = some (.slice f0.st.A f0.st.l.length f0.st.c) := (hB12.cell (p := ⟨w.heap.size, 1, none⟩) bx0_l11).trans bx0_1_11
  have bx0_2_12 : w12.cell? ⟨w.heap.size, 2, none⟩ = some (.slice f0.no.A f0.no.l.length f0.no.c) := (hB12.cell (p := ⟨w.heap.size, 2, none⟩) bx0_l11).trans bx0_2_11
  have bW0_l12 : w3.heap.size < w12.heap.size := Nat.lt_of_lt_of_le bW0_l11 hB12.size
  have bW0_0_12 : w12.cell? ⟨w3.heap.size, 0, none⟩ = some (.slice A3 N c3) := (hB12.cell (p := ⟨w3.heap.size, 0, none⟩) bW0_l11).trans bW0_0_11
  have bG0_l12 : w5.heap.size < w12.heap.size := Nat.lt_of_lt_of_le bG0_l11 hB12.size
  have bG0_0_12 : w12.cell? ⟨w5.heap.size, 0, none⟩ = some (.slice A5 N c5) := (hB12.cell (p := ⟨w5.heap.size, 0, none⟩) bG0_l11).trans bG0_0_11
  clear bx0_l11 bx0_0_11 bx0_1_11 bx0_2_11 bW0_l11 bW0_0_11 bG0_l11 bG0_0_11
  have W0_12 := Lib.hid (W0_11.out.next hB12)
  have G0_12 := Lib.hid (G0_11.out.next hB12)
  clear W0_11 G0_11
  have HF0_12 := Lib.hid (HF0_0.out.below hT12)
  clear HF0_11
  go_wp2_with fail
  refine (toFile_L f0 p0 _ (by first | exact HF0_12.out | exact HF0_12.out.alloc _ | exact (HF0_12.out.alloc _).alloc _ | exact ((HF0_12.out.alloc _).alloc _).alloc _ | exact HF0_12.out.drew | exact (HF0_12.out.drew).alloc _) HP0.out HSZp0.out).mono ?_
  rintro e w13 ⟨t13, rfl, hp13, ho13, hb13⟩
  have hB13 : Below w12.heap.size w12 w13 := Below.next (by go_grown) hb13
  have hT13 : Below w.heap.size w w13 := Below.next hT12 hB13
  have hz13 := hb13.size
  (try simp only [World.size_alloc, World.size_drew] at hz13)
  have bx0_l13 : w.heap.size < w13.heap.size := Nat.lt_of_lt_of_le bx0_l12 hB13.size
  have bx0_0_13 : w13.cell? ⟨w.heap.size, 0, none⟩ = some (.slice f0.ch.A f0.ch.l.length f0.ch.c) := (hB13.cell (p := ⟨w.heap.size, 0, none⟩) bx0_l12).trans bx0_0_12
  have bx0_1_13 : w13.cell? ⟨w.heap.size, 1, none⟩ = some (.slice f0.st.A f0.st.l.length f0.st.c) := (hB13.cell (p := ⟨w.heap.size, 1, none⟩) bx0_l12).trans bx0_1_12
  have bx0_2_13 : w13.cell? ⟨w.heap.size, 2, none⟩ = some (.slice f0.no.A f0.no.l.length f0.no.c) := (hB13.cell (p := ⟨w.heap.size, 2, none⟩) bx0_l12).trans bx0_2_12
  have bW0_l13 : w3.heap.size < w13.heap.size := Nat.lt_of_lt_of_le bW0_l12 hB13.size
  have bW0_0_13 : w13.cell? ⟨w3.heap.size, 0, none⟩ = some (.slice A3 N c3) := (hB13.cell (p := ⟨w3.heap.size, 0, none⟩) bW0_l12).trans bW0_0_12
  have bG0_l13 : w5.heap.size < w13.heap.size := Nat.lt_of_lt_of_le bG0_l12 hB13.size
  have bG0_0_13 : w13.cell? ⟨w5.heap.size, 0, none⟩ = some (.slice A5 N c5) := (hB13.cell (p := ⟨w5.heap.size, 0, none⟩) bG0_l12).trans bG0_0_12
  clear bx0_l12 bx0_0_12 bx0_1_12 bx0_2_12 bW0_l12 bW0_0_12 bG0_l12 bG0_0_12
  have W0_13 := Lib.hid (W0_12.out.next hB13)
  have G0_13 := Lib.hid (G0_12.out.next hB13)
  clear W0_12 G0_12
  have HF0_13 := Lib.hid (HF0_0.out.below hT13)
  clear HF0_12
  have XH_13 : Hid (FileMine w13 (w12.heap.size) (w13.heap.size) t13) := by have h := ho13; (try simp only [World.size_alloc, World.size_drew] at h); exact h
  have XH_p : Hid (filePl t13 = p0) := hp13
  clear ho13 hp13
  go_wp2_with fail
  refine (iIof_L t13 p0 L N code v x y t _ (by first | exact XH_13.out.rd | exact XH_13.out.rd.alloc _ | exact (XH_13.out.rd.alloc _).alloc _ | exact ((XH_13.out.rd.alloc _).alloc _).alloc _ | exact (((XH_13.out.rd.alloc _).alloc _).alloc _).alloc _ | exact XH_13.out.rd.drew | exact (XH_13.out.rd.drew).alloc _) XH_p.out HSZp0.out HTXp0.out HV HXx HXy HXt HCR HN).mono ?_
  rintro e w14 ⟨A14, c14, T14, rfl, hp14, ho14, hb14⟩
  have hB14 : Below w13.heap.size w13 w14 := Below.next (by go_grown) hb14
  have hT14 : Below w.heap.size w w14 := Below.next hT13 hB14
  have hz14 := hb14.size
  (try simp only [World.size_alloc, World.size_drew] at hz14)
  have bx0_l14 : w.heap.size < w14.heap.size := Nat.lt_of_lt_of_le bx0_l13 hB14.size
  have bx0_0_14 : w14.cell? ⟨w.heap.size, 0, none⟩ = some (.slice f0.ch.A f0.ch.l.length f0.ch.c) := (hB14.cell (p := ⟨w.heap.size, 0, none⟩) bx0_l13).trans bx0_0_13
  have bx0_1_14 : w14.cell? ⟨w.heap.size, 1, none⟩ = some (.slice f0.st.A f0.st.l.length f0.st.c) := (hB14.cell (p := ⟨w.heap.size, 1, none⟩) bx0_l13).trans bx0_1_13
  have bx0_2_14 : w14.cell? ⟨w.heap.size, 2, none⟩ = some (.slice f0.no.A f0.no.l.length f0.no.c) := (hB14.cell (p := ⟨w.heap.size, 2, none⟩) bx0_l13).trans bx0_2_13
  have bW0_l14 : w3.heap.size < w14.heap.size := Nat.lt_of_lt_of_le bW0_l13 hB14.size
  have bW0_0_14 : w14.cell? ⟨w3.heap.size, 0, none⟩ = some (.slice A3 N c3) := (hB14.cell (p := ⟨w3.heap.size, 0, none⟩) bW0_l13).trans bW0_0_13
  have bG0_l14 : w5.heap.size < w14.heap.size := Nat.lt_of_lt_of_le bG0_l13 hB14.size
  have bG0_0_14 : w14.cell? ⟨w5.heap.size, 0, none⟩ = some (.slice A5 N c5) := (hB14.cell (p := ⟨w5.heap.size, 0, none⟩) bG0_l13).trans bG0_0_13
  clear bx0_l13 bx0_0_13 bx0_1_13 bx0_2_13 bW0_l13 bW0_0_13 bG0_l13 bG0_0_13
  have W0_14 := Lib.hid (W0_13.out.next hB14)
  have G0_14 := Lib.hid (G0_13.out.next hB14)
  clear W0_13 G0_13
  have HF0_14 := Lib.hid (HF0_0.out.below hT14)
  clear HF0_13
  have XH_14 := Lib.hid (XH_13.out.next hB14)
  clear XH_13
  have H0_14 : Hid (InkOwn w14 (w13.heap.size) (w14.heap.size) (.slice A14 N c14) T14) := by have h := ho14; (try simp only [World.size_alloc, World.size_drew] at h); exact h
  clear ho14
  have H0_p := Lib.hid hp14
  have H0_l := Lib.hid (small_len hp14 HN.out)
  have H0_s := small_big HSM.out hp14
  clear hp14
  go_wp2_with fail
  refine (eqInk_same _ _ N _ _ T14 T3 _ (by first | exact (H0_14.out.rd H0_l.out) | exact (H0_14.out.rd H0_l.out).alloc _ | exact ((H0_14.out.rd H0_l.out).alloc _).alloc _ | exact (((H0_14.out.rd H0_l.out).alloc _).alloc _).alloc _ | exact ((((H0_14.out.rd H0_l.out).alloc _).alloc _).alloc _).alloc _ | exact (H0_14.out.rd H0_l.out).drew | exact ((H0_14.out.rd H0_l.out).drew).alloc _) (by first | exact (W0_14.out.rd W0_l.out) | exact (W0_14.out.rd W0_l.out).alloc _ | exact ((W0_14.out.rd W0_l.out).alloc _).alloc _ | exact (((W0_14.out.rd W0_l.out).alloc _).alloc _).alloc _ | exact ((((W0_14.out.rd W0_l.out).alloc _).alloc _).alloc _).alloc _ | exact (W0_14.out.rd W0_l.out).drew | exact ((W0_14.out.rd W0_l.out).drew).alloc _) (H0_p.out.trans W0_p.out.symm) H0_s hN).mono ?_
  rintro e w15 ⟨rfl, hb15⟩
  have hB15 : Below w14.heap.size w14 w15 := Below.next (by go_grown) hb15
  have hT15 : Below w.heap.size w w15 := Below.next hT14 hB15
  have hz15 := hb15.size
  (try simp only [World.size_alloc, World.size_drew] at hz15)
  have bx0_l15 : w.heap.size < w15.heap.size := Nat.lt_of_lt_of_le bx0_l14 hB15.size
  have bx0_0_15 : w15.cell? ⟨w.heap.size, 0, none⟩ = some (.slice f0.ch.A f0.ch.l.length f0.ch.c) := (hB15.cell (p := ⟨w.heap.size, 0, none⟩) bx0_l14).trans bx0_0_14
  have bx0_1_15 : w15.cell? ⟨w.heap.size, 1, none⟩ = some (.slice f0.st.A f0.st.l.length f0.st.c) := (hB15.cell (p := ⟨w.heap.size, 1, none⟩) bx0_l14).trans bx0_1_14
  have bx0_2_15 : w15.cell? ⟨w.heap.size, 2, none⟩ = some (.slice f0.no.A f0.no.l.length f0.no.c) := (hB15.cell (p := ⟨w.heap.size, 2, none⟩) bx0_l14).trans bx0_2_14
  have bW0_l15 : w3.heap.size < w15.heap.size := Nat.lt_of_lt_of_le bW0_l14 hB15.size
  have bW0_0_15 : w15.cell? ⟨w3.heap.size, 0, none⟩ = some (.slice A3 N c3) := (hB15.cell (p := ⟨w3.heap.size, 0, none⟩) bW0_l14).trans bW0_0_14
  have bG0_l15 : w5.heap.size < w15.heap.size := Nat.lt_of_lt_of_le bG0_l14 hB15.size
  have bG0_0_15 : w15.cell? ⟨w5.heap.size, 0, none⟩ = some (.slice A5 N c5) := (hB15.cell (p := ⟨w5.heap.size, 0, none⟩) bG0_l14).trans bG0_0_14
  have bH0_l15 : w14.heap.size < w15.heap.size := by omega
  have bH0_0_15 : w15.cell? ⟨w14.heap.size, 0, none⟩ = some (.slice A14 N c14) := (hb15.cell (p := ⟨w14.heap.size, 0, none⟩) (by (try simp only [World.size_alloc, World.size_drew]); omega)).trans (by go_simp)
  clear bx0_l14 bx0_0_14 bx0_1_14 bx0_2_14 bW0_l14 bW0_0_14 bG0_l14 bG0_0_14
  have W0_15 := Lib.hid (W0_14.out.next hB15)
  have G0_15 := Lib.hid (G0_14.out.next hB15)
  have H0_15 := Lib.hid (H0_14.out.next hB15)
  clear W0_14 G0_14 H0_14
  have HF0_15 := Lib.hid (HF0_0.out.below hT15)
  clear HF0_14
  go_wp2_with fail
  refine (heldInk_L _ N _ mm T5 L _ (by first | exact (G0_15.out.rdM G0_l.out) | exact (G0_15.out.rdM G0_l.out).alloc _ | exact ((G0_15.out.rdM G0_l.out).alloc _).alloc _ | exact (((G0_15.out.rdM G0_l.out).alloc _).alloc _).alloc _ | exact ((((G0_15.out.rdM G0_l.out).alloc _).alloc _).alloc _).alloc _ | exact (G0_15.out.rdM G0_l.out).drew | exact ((G0_15.out.rdM G0_l.out).drew).alloc _) G0_p.out HN.out HSM.out HMM.out).mono ?_
  rintro e w16 ⟨rfl, hb16⟩
  have hB16 : Below w15.heap.size w15 w16 := Below.next (by go_grown) hb16
  have hT16 : Below w.heap.size w w16 := Below.next hT15 hB16
  have hz16 := hb16.size
  (try simp only [World.size_alloc, World.size_drew] at hz16)
  have bx0_l16 : w.heap.size < w16.heap.size := Nat.lt_of_lt_of_le bx0_l15 hB16.size
  have bx0_0_16 : w16.cell? ⟨w.heap.size, 0, none⟩ = some (.slice f0.ch.A f0.ch.l.length f0.ch.c) := (hB16.cell (p := ⟨w.heap.size, 0, none⟩) bx0_l15).trans bx0_0_15
  have bx0_1_16 : w16.cell? ⟨w.heap.size, 1, none⟩ = some (.slice f0.st.A f0.st.l.length f0.st.c) := (hB16.cell (p := ⟨w.heap.size, 1, none⟩) bx0_l15).trans bx0_1_15
  have bx0_2_16 : w16.cell? ⟨w.heap.size, 2, none⟩ = some (.slice f0.no.A f0.no.l.length f0.no.c) := (hB16.cell (p := ⟨w.heap.size, 2, none⟩) bx0_l15).trans bx0_2_15
  have bW0_l16 : w3.heap.size < w16.heap.size := Nat.lt_of_lt_of_le bW0_l15 hB16.size
  have bW0_0_16 : w16.cell? ⟨w3.heap.size, 0, none⟩ = some (.slice A3 N c3) := (hB16.cell (p := ⟨w3.heap.size, 0, none⟩) bW0_l15).trans bW0_0_15
  have bG0_l16 : w5.heap.size < w16.heap.size := Nat.lt_of_lt_of_le bG0_l15 hB16.size
  have bG0_0_16 : w16.cell? ⟨w5.heap.size, 0, none⟩ = some (.slice A5 N c5) := (hB16.cell (p := ⟨w5.heap.size, 0, none⟩) bG0_l15).trans bG0_0_15
  have bH0_l16 : w14.heap.size < w16.heap.size := Nat.lt_of_lt_of_le bH0_l15 hB16.size
  have bH0_0_16 : w16.cell? ⟨w14.heap.size, 0, none⟩ = some (.slice A14 N c14) := (hB16.cell (p := ⟨w14.heap.size, 0, none⟩) bH0_l15).trans bH0_0_15
  clear bx0_l15 bx0_0_15 bx0_1_15 bx0_2_15 bW0_l15 bW0_0_15 bG0_l15 bG0_0_15 bH0_l15 bH0_0_15
  have W0_16 := Lib.hid (W0_15.out.next hB16)
  have G0_16 := Lib.hid (G0_15.out.next hB16)
  have H0_16 := Lib.hid (H0_15.out.next hB16)
  clear W0_15 G0_15 H0_15
  have HF0_16 := Lib.hid (HF0_0.out.below hT16)
  clear HF0_15
  go_wp2_with fail
  go_ret
  exact ⟨rfl, by go_grown⟩

theorem law_InkOfFile {w : World} (f0 : Fl) (hg0 : FileGood w f0) (_ : World) :
    Calls Try.prog 10 #[.agg #[.slice f0.ch.A f0.ch.l.length f0.ch.c, .slice f0.st.A f0.st.l.length f0.st.c, .slice f0.no.A f0.no.l.length f0.no.c]] w (Yes w) :=
  InkOfFile_walk f0 hg0 
end Go.Proofs.Ytigingjpdlfanaa
