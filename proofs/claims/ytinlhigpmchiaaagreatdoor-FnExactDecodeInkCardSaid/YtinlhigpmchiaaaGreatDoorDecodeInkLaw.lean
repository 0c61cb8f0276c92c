/-
  The law of DecodeInk returns true: program and reference read the same compressed ink, or refuse alike; the ink is the caller's own.
-/
import Derived.Test.YtinlhigpmchiaaaGreatDoorDcF
import Derived.Test.YtinlhigpmchiaaaGreatDoorBaseC
namespace Go.Proofs.YtinlhigpmchiaaaGreatDoor
set_option linter.unusedSimpArgs false
set_option linter.unusedVariables false
set_option maxRecDepth 20000
open Go.RowKit
open Go.ChangeShapes Go.WideShapes Go.Deep Go.Joins

set_option maxHeartbeats 16000000 in
set_option maxRecDepth 100000 in
theorem DecodeInk_walk (s : ByteArray) (w : World) : Calls Tryz.prog 3 #[.string s] w (Yes w) := by
  by_cases hle : s.size ≤ 1048576
  rotate_left
  · go_enter Tryz.func3, Tryz.ntmps3
    go_wp2_with fail
    go_ret
    exact ⟨rfl, Below.refl _ _⟩
  obtain ⟨⟨L, code⟩, hr⟩ : ∃ r, decS s.data.toList = r := ⟨_, rfl⟩
  obtain ⟨N, hN0⟩ : ∃ N, L.length = N := ⟨_, rfl⟩
  have hsm0 : smallP L := by have h := decS_small s.data.toList; rw [hr] at h; exact h
  have hN : N ≤ 1048576 := by have := hsm0.1; omega
  obtain ⟨mm, hmm0'⟩ : ∃ mm, 1 + 3 * cntP L = mm := ⟨_, rfl⟩
  have HCR := Lib.hid hr
  have HN := Lib.hid hN0
  have HSM : Hid (smallP L) := hsm0
  have HMM := Lib.hid hmm0'
  have hmb2 : mm ≤ 2881 := small_marks hsm0 hmm0'
  clear hr hN0 hsm0 hmm0'
  have hT0 : Below w.heap.size w w := Below.refl _ _
  go_enter Tryz.func3, Tryz.ntmps3
  go_wp2_with fail
  refine (sDecodeInk_any s hle L code N HCR HN _).mono ?_
  rintro e w1 ⟨A1, c1, T1, rfl, hp1, ho1, hb1⟩
  have hB1 : Below w.heap.size w w1 := Below.next (by go_grown) hb1
  have hT1 : Below w.heap.size w w1 := hB1
  have hz1 := hb1.size
  (try simp only [World.size_alloc, World.size_drew] at hz1)
  have W0_1 : Hid (InkOwn w1 (w.heap.size) (w1.heap.size) (.slice A1 N c1) T1) := by have h := ho1; (try simp only [World.size_alloc, World.size_drew] at h); exact h
  clear ho1
  have W0_p := Lib.hid hp1
  have W0_l := Lib.hid (small_len hp1 HN.out)
  have W0_s := small_big HSM.out hp1
  clear hp1
  go_wp2_with fail
  refine (iDecodeInk_any s hle L code N HCR HN _).mono ?_
  rintro e w2 ⟨A2, c2, T2, rfl, hp2, ho2, hb2⟩
  have hB2 : Below w1.heap.size w1 w2 := Below.next (by go_grown) hb2
  have hT2 : Below w.heap.size w w2 := Below.next hT1 hB2
  have hz2 := hb2.size
  (try simp only [World.size_alloc, World.size_drew] at hz2)
  have bW0_l2 : w1.heap.size < w2.heap.size := by omega
  have bW0_0_2 : w2.cell? ⟨w1.heap.size, 0, none⟩ = some (.slice A1 N c1) := (hb2.cell (p := ⟨w1.heap.size, 0, none⟩) (by (try simp only [World.size_alloc, World.size_drew]); omega)).trans (by go_simp)
  have W0_2 := Lib.hid (W0_1.out.next hB2)
  clear W0_1
  have G0_2 : Hid (InkOwn w2 (w1.heap.size + 1) (w2.heap.size) (.slice A2 N c2) T2) := by have h := ho2; (try simp only [World.size_alloc, World.size_drew] at h); exact h
  clear ho2
  have G0_p := Lib.hid hp2
  have G0_l := Lib.hid (small_len hp2 HN.out)
  have G0_s := small_big HSM.out hp2
  clear hp2
  go_wp2_with fail
  refine (eqInk_same _ _ N _ _ T2 T1 _ (by first | exact (G0_2.out.rd G0_l.out) | exact (G0_2.out.rd G0_l.out).alloc _ | exact ((G0_2.out.rd G0_l.out).alloc _).alloc _ | exact (((G0_2.out.rd G0_l.out).alloc _).alloc _).alloc _ | exact ((((G0_2.out.rd G0_l.out).alloc _).alloc _).alloc _).alloc _ | exact (G0_2.out.rd G0_l.out).drew | exact ((G0_2.out.rd G0_l.out).drew).alloc _) (by first | exact (W0_2.out.rd W0_l.out) | exact (W0_2.out.rd W0_l.out).alloc _ | exact ((W0_2.out.rd W0_l.out).alloc _).alloc _ | exact (((W0_2.out.rd W0_l.out).alloc _).alloc _).alloc _ | exact ((((W0_2.out.rd W0_l.out).alloc _).alloc _).alloc _).alloc _ | exact (W0_2.out.rd W0_l.out).drew | exact ((W0_2.out.rd W0_l.out).drew).alloc _) (G0_p.out.trans W0_p.out.symm) G0_s hN).mono ?_
  rintro e w3 ⟨rfl, hb3⟩
  have hB3 : Below w2.heap.size w2 w3 := Below.next (by go_grown) hb3
  have hT3 : Below w.heap.size w w3 := Below.next hT2 hB3
  have hz3 := hb3.size
  (try simp only [World.size_alloc, World.size_drew] at hz3)
  have bW0_l3 : w1.heap.size < w3.heap.size := Nat.lt_of_lt_of_le bW0_l2 hB3.size
  have bW0_0_3 : w3.cell? ⟨w1.heap.size, 0, none⟩ = some (.slice A1 N c1) := (hB3.cell (p := ⟨w1.heap.size, 0, none⟩) bW0_l2).trans bW0_0_2
  have bG0_l3 : w2.heap.size < w3.heap.size := by omega
  have bG0_0_3 : w3.cell? ⟨w2.heap.size, 0, none⟩ = some (.slice A2 N c2) := (hb3.cell (p := ⟨w2.heap.size, 0, none⟩) (by (try simp only [World.size_alloc, World.size_drew]); omega)).trans (by go_simp)
  clear bW0_l2 bW0_0_2
  have W0_3 := Lib.hid (W0_2.out.next hB3)
  have G0_3 := Lib.hid (G0_2.out.next hB3)
  clear W0_2 G0_2
  go_wp2_with fail
  refine (markInk_L _ _ _ N _ mm T2 L _ (by first | exact G0_3.out | exact G0_3.out.alloc _ | exact (G0_3.out.alloc _).alloc _ | exact ((G0_3.out.alloc _).alloc _).alloc _ | exact (((G0_3.out.alloc _).alloc _).alloc _).alloc _ | exact G0_3.out.drew | exact (G0_3.out.drew).alloc _) G0_p.out HN.out HSM.out HMM.out).mono ?_
  rintro e w4 ⟨rfl, ho4, hc4⟩
  have hz4 : w3.heap.size ≤ w4.heap.size := hc4.size
  have hT4 : Below w.heap.size w w4 := hT3.trans ((hc4.below (by omega)).mono (by omega))
  have W0_4 := Lib.hid (W0_3.out.chg hc4 (by omega))
  have G0_4 : Hid (InkOwn w4 (w1.heap.size + 1) (w2.heap.size) (.slice A2 N c2) (mkS 1 T2)) := ho4
  clear ho4
  have bW0_l4 : w1.heap.size < w4.heap.size := Nat.lt_of_lt_of_le bW0_l3 hz4
  have bW0_0_4 : w4.cell? ⟨w1.heap.size, 0, none⟩ = some (.slice A1 N c1) := (hc4.cell 0 bW0_l3 (by omega)).trans bW0_0_3
  have bG0_l4 : w2.heap.size < w4.heap.size := Nat.lt_of_lt_of_le bG0_l3 hz4
  have bG0_0_4 : w4.cell? ⟨w2.heap.size, 0, none⟩ = some (.slice A2 N c2) := (hc4.cell 0 bG0_l3 (by omega)).trans bG0_0_3
  clear W0_3 G0_3 bW0_l3 bW0_0_3 bG0_l3 bG0_0_3
  go_wp2_with fail
  refine (heldInk_L _ N _ mm T2 L _ (by first | exact (G0_4.out.rdM G0_l.out) | exact (G0_4.out.rdM G0_l.out).alloc _ | exact ((G0_4.out.rdM G0_l.out).alloc _).alloc _ | exact (((G0_4.out.rdM G0_l.out).alloc _).alloc _).alloc _ | exact ((((G0_4.out.rdM G0_l.out).alloc _).alloc _).alloc _).alloc _ | exact (G0_4.out.rdM G0_l.out).drew | exact ((G0_4.out.rdM G0_l.out).drew).alloc _) G0_p.out HN.out HSM.out HMM.out).mono ?_
  rintro e w5 ⟨rfl, hb5⟩
  have hB5 : Below w4.heap.size w4 w5 := Below.next (by go_grown) hb5
  have hT5 : Below w.heap.size w w5 := Below.next hT4 hB5
  have hz5 := hb5.size
  (try simp only [World.size_alloc, World.size_drew] at hz5)
  have bW0_l5 : w1.heap.size < w5.heap.size := Nat.lt_of_lt_of_le bW0_l4 hB5.size
  have bW0_0_5 : w5.cell? ⟨w1.heap.size, 0, none⟩ = some (.slice A1 N c1) := (hB5.cell (p := ⟨w1.heap.size, 0, none⟩) bW0_l4).trans bW0_0_4
  have bG0_l5 : w2.heap.size < w5.heap.size := Nat.lt_of_lt_of_le bG0_l4 hB5.size
  have bG0_0_5 : w5.cell? ⟨w2.heap.size, 0, none⟩ = some (.slice A2 N c2) := (hB5.cell (p := ⟨w2.heap.size, 0, none⟩) bG0_l4).trans bG0_0_4
  clear bW0_l4 bW0_0_4 bG0_l4 bG0_0_4
  have W0_5 := Lib.hid (W0_4.out.next hB5)
  have G0_5 := Lib.hid (G0_4.out.next hB5)
  clear W0_4 G0_4
  go_wp2_with fail
  refine (iDecodeInk_any s hle L code N HCR HN _).mono ?_
  rintro e w6 ⟨A6, c6, T6, rfl, hp6, ho6, hb6⟩
  have hB6 : Below w5.heap.size w5 w6 := Below.next (by go_grown) hb6
  have hT6 : Below w.heap.size w w6 := Below.next hT5 hB6
  have hz6 := hb6.size
  (try simp only [World.size_alloc, World.size_drew] at hz6)
  have bW0_l6 : w1.heap.size < w6.heap.size := Nat.lt_of_lt_of_le bW0_l5 hB6.size
  have bW0_0_6 : w6.cell? ⟨w1.heap.size, 0, none⟩ = some (.slice A1 N c1) := (hB6.cell (p := ⟨w1.heap.size, 0, none⟩) bW0_l5).trans bW0_0_5
  have bG0_l6 : w2.heap.size < w6.heap.size := Nat.lt_of_lt_of_le bG0_l5 hB6.size
  have bG0_0_6 : w6.cell? ⟨w2.heap.size, 0, none⟩ = some (.slice A2 N c2) := (hB6.cell (p := ⟨w2.heap.size, 0, none⟩) bG0_l5).trans bG0_0_5
  clear bW0_l5 bW0_0_5 bG0_l5 bG0_0_5
  have W0_6 := Lib.hid (W0_5.out.next hB6)
  have G0_6 := Lib.hid (G0_5.out.next hB6)
  clear W0_5 G0_5
  have H0_6 : Hid (InkOwn w6 (w5.heap.size) (w6.heap.size) (.slice A6 N c6) T6) := by have h := ho6; (try simp only [World.size_alloc, World.size_drew] at h); exact h
  clear ho6
  have H0_p := Lib.hid hp6
  have H0_l := Lib.hid (small_len hp6 HN.out)
  have H0_s := small_big HSM.out hp6
  clear hp6
  go_wp2_with fail
  refine (eqInk_same _ _ N _ _ T6 T1 _ (by first | exact (H0_6.out.rd H0_l.out) | exact (H0_6.out.rd H0_l.out).alloc _ | exact ((H0_6.out.rd H0_l.out).alloc _).alloc _ | exact (((H0_6.out.rd H0_l.out).alloc _).alloc _).alloc _ | exact ((((H0_6.out.rd H0_l.out).alloc _).alloc _).alloc _).alloc _ | exact (H0_6.out.rd H0_l.out).drew | exact ((H0_6.out.rd H0_l.out).drew).alloc _) (by first | exact (W0_6.out.rd W0_l.out) | exact (W0_6.out.rd W0_l.out).alloc _ | exact ((W0_6.out.rd W0_l.out).alloc _).alloc _ | exact (((W0_6.out.rd W0_l.out).alloc _).alloc _).alloc _ | exact ((((W0_6.out.rd W0_l.out).alloc _).alloc _).alloc _).alloc _ | exact (W0_6.out.rd W0_l.out).drew | exact ((W0_6.out.rd W0_l.out).drew).alloc _) (H0_p.out.trans W0_p.out.symm) H0_s hN).mono ?_
  rintro e w7 ⟨rfl, hb7⟩
  have hB7 : Below w6.heap.size w6 w7 := Below.next (by go_grown) hb7
  have hT7 : Below w.heap.size w w7 := Below.next hT6 hB7
  have hz7 := hb7.size
  (try simp only [World.size_alloc, World.size_drew] at hz7)
  have bW0_l7 : w1.heap.size < w7.heap.size := Nat.lt_of_lt_of_le bW0_l6 hB7.size
  have bW0_0_7 : w7.cell? ⟨w1.heap.size, 0, none⟩ = some (.slice A1 N c1) := (hB7.cell (p := ⟨w1.heap.size, 0, none⟩) bW0_l6).trans bW0_0_6
  have bG0_l7 : w2.heap.size < w7.heap.size := Nat.lt_of_lt_of_le bG0_l6 hB7.size
  have bG0_0_7 : w7.cell? ⟨w2.heap.size, 0, none⟩ = some (.slice A2 N c2) := (hB7.cell (p := ⟨w2.heap.size, 0, none⟩) bG0_l6).trans bG0_0_6
  have bH0_l7 : w6.heap.size < w7.heap.size := by omega
  have bH0_0_7 : w7.cell? ⟨w6.heap.size, 0, none⟩ = some (.slice A6 N c6) := (hb7.cell (p := ⟨w6.heap.size, 0, none⟩) (by (try simp only [World.size_alloc, World.size_drew]); omega)).trans (by go_simp)
  clear bW0_l6 bW0_0_6 bG0_l6 bG0_0_6
  have W0_7 := Lib.hid (W0_6.out.next hB7)
  have G0_7 := Lib.hid (G0_6.out.next hB7)
  have H0_7 := Lib.hid (H0_6.out.next hB7)
  clear W0_6 G0_6 H0_6
  go_wp2_with fail
  refine (heldInk_L _ N _ mm T2 L _ (by first | exact (G0_7.out.rdM G0_l.out) | exact (G0_7.out.rdM G0_l.out).alloc _ | exact ((G0_7.out.rdM G0_l.out).alloc _).alloc _ | exact (((G0_7.out.rdM G0_l.out).alloc _).alloc _).alloc _ | exact ((((G0_7.out.rdM G0_l.out).alloc _).alloc _).alloc _).alloc _ | exact (G0_7.out.rdM G0_l.out).drew | exact ((G0_7.out.rdM G0_l.out).drew).alloc _) G0_p.out HN.out HSM.out HMM.out).mono ?_
  rintro e w8 ⟨rfl, hb8⟩
  have hB8 : Below w7.heap.size w7 w8 := Below.next (by go_grown) hb8
  have hT8 : Below w.heap.size w w8 := Below.next hT7 hB8
  have hz8 := hb8.size
  (try simp only [World.size_alloc, World.size_drew] at hz8)
  have bW0_l8 : w1.heap.size < w8.heap.size := Nat.lt_of_lt_of_le bW0_l7 hB8.size
  have bW0_0_8 : w8.cell? ⟨w1.heap.size, 0, none⟩ = some (.slice A1 N c1) := (hB8.cell (p := ⟨w1.heap.size, 0, none⟩) bW0_l7).trans bW0_0_7
  have bG0_l8 : w2.heap.size < w8.heap.size := Nat.lt_of_lt_of_le bG0_l7 hB8.size
  have bG0_0_8 : w8.cell? ⟨w2.heap.size, 0, none⟩ = some (.slice A2 N c2) := (hB8.cell (p := ⟨w2.heap.size, 0, none⟩) bG0_l7).trans bG0_0_7
  have bH0_l8 : w6.heap.size < w8.heap.size := Nat.lt_of_lt_of_le bH0_l7 hB8.size
  have bH0_0_8 : w8.cell? ⟨w6.heap.size, 0, none⟩ = some (.slice A6 N c6) := (hB8.cell (p := ⟨w6.heap.size, 0, none⟩) bH0_l7).trans bH0_0_7
  clear bW0_l7 bW0_0_7 bG0_l7 bG0_0_7 bH0_l7 bH0_0_7
  have W0_8 := Lib.hid (W0_7.out.next hB8)
  have G0_8 := Lib.hid (G0_7.out.next hB8)
  have H0_8 := Lib.hid (H0_7.out.next hB8)
  clear W0_7 G0_7 H0_7
  go_wp2_with fail
  go_ret
  exact ⟨rfl, by go_grown⟩

theorem law_DecodeInk {W : World} (s : ByteArray) (h : s.size ≤ maxLen) (_ : World) (hL : laidMet Tryz.prog Rows.fnExactDecodeInkRow.laid W) (hsh : W.ShapedOpen Tryz.prog) : Calls Tryz.prog 3 #[.string s] W (Yes W) :=
  DecodeInk_walk s W 
end Go.Proofs.YtinlhigpmchiaaaGreatDoor
