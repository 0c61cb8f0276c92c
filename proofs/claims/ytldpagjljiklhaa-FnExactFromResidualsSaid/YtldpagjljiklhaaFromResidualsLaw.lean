/-
  The law of FromResiduals returns true: program and reference make the same list, or refuse alike; the list is the caller's own.
-/
import Derived.Test.YtldpagjljiklhaaFromRes
namespace Go.Proofs.Ytldpagjljiklhaa
set_option linter.unusedSimpArgs false
set_option linter.unusedVariables false
open Go.RowKit
open Go.ChangeShapes Go.WideShapes Go.Deep Go.Joins

set_option maxHeartbeats 16000000 in
set_option maxRecDepth 100000 in
theorem FromResiduals_walk {w : World} (A0 : Option Addr) (n0 c0 : Nat) (xs0 : List Int) (ha0 : Rd w A0 n0 1 (rowOf iC xs0)) (la0 : xs0.length = n0) (hn0 : n0 ≤ 9223372036854775807) :
    Calls Try.prog 4 #[.slice A0 n0 c0] w (Yes w) := by
  have HA0_0 := Lib.hid ha0
  have LA0 := Lib.hid la0
  clear ha0 la0
  obtain ⟨⟨L, code⟩, hR0⟩ : ∃ r, fromR xs0 = r := ⟨_, rfl⟩
  obtain ⟨N, hN0⟩ : ∃ N, L.length = N := ⟨_, rfl⟩
  have hN : N ≤ 1048576 := by have h := fromR_len xs0; rw [hR0] at h; have h2 : L.length ≤ 60 := h; omega
  have HR := Lib.hid hR0
  have HN := Lib.hid hN0
  clear hR0 hN0
  by_cases hle0 : n0 ≤ 1048576
  rotate_left
  · go_enter Try.func4, Try.ntmps4
    go_wp2_with fail
    go_ret
    exact ⟨rfl, Below.refl _ _⟩
  · go_enter Try.func4, Try.ntmps4
    have hT0 : Below w.heap.size w w := Below.refl _ _
    go_wp2_with fail
    refine (toInt64S_any A0 n0 c0 xs0 _ (by first | exact HA0_0.out | exact HA0_0.out.alloc _ | exact (HA0_0.out.alloc _).alloc _ | exact ((HA0_0.out.alloc _).alloc _).alloc _ | exact HA0_0.out.drew | exact (HA0_0.out.drew).alloc _) LA0.out hle0).mono ?_
    rintro e w1 ⟨g1, rfl, hg1, hk1, hb1⟩
    have hB1 : Below w.heap.size w w1 := Below.next (by go_grown) hb1
    have hT1 : Below w.heap.size w w1 := hB1
    have hz1 := hb1.size
    (try simp only [World.size_alloc, World.size_drew] at hz1)
    have HA0_1 := Lib.hid (HA0_0.out.below hT1)
    have RS_1 := Lib.hid (show Own iC 2 1 w1 _ (.slice (some ⟨g1, 0, none⟩) n0 n0) xs0 from by have ho := Own.of_bk hk1 iC_len (by rw [LA0.out]; unfold maxLen; omega) hg1; rw [LA0.out] at ho; exact ho)
    have HI_RS : Hid (∀ k, Value.ownBlock (.slice (some ⟨g1, 0, none⟩) n0 n0) = some k → w.heap.size ≤ k ∧ k < w1.heap.size) := fun k hk => by have hl := RS_1.out.lt k hk; (try simp only [World.size_alloc, World.size_drew] at hl); exact hl
    go_wp2_with fail
    refine (sFromResiduals _ n0 n0 N code xs0 L _ (by first | exact (RS_1.out.rdS LA0.out) | exact (RS_1.out.rdS LA0.out).alloc _ | exact ((RS_1.out.rdS LA0.out).alloc _).alloc _ | exact (((RS_1.out.rdS LA0.out).alloc _).alloc _).alloc _ | exact (RS_1.out.rdS LA0.out).drew | exact ((RS_1.out.rdS LA0.out).drew).alloc _) LA0.out hle0 HR.out HN.out).mono ?_
    rintro e w2 ⟨A2, c2, rfl, ho2, hb2⟩
    have hB2 : Below w1.heap.size w1 w2 := Below.next (by go_grown) hb2
    have hT2 : Below w.heap.size w w2 := Below.next hT1 hB2
    have hz2 := hb2.size
    (try simp only [World.size_alloc, World.size_drew] at hz2)
    have RS_2 := Lib.hid (RS_1.out.next hB2)
    clear RS_1
    have HA0_2 := Lib.hid (HA0_0.out.below hT2)
    clear HA0_1
    have W0_2 := Lib.hid (ho2)
    have HI_W0 : Hid (∀ k, Value.ownBlock (.slice A2 N c2) = some k → w1.heap.size ≤ k ∧ k < w2.heap.size) := fun k hk => by have hl := W0_2.out.lt k hk; (try simp only [World.size_alloc, World.size_drew] at hl); exact hl
    go_wp2_with fail
    refine (toInt64S_any A0 n0 c0 xs0 _ (by first | exact HA0_2.out | exact HA0_2.out.alloc _ | exact (HA0_2.out.alloc _).alloc _ | exact ((HA0_2.out.alloc _).alloc _).alloc _ | exact HA0_2.out.drew | exact (HA0_2.out.drew).alloc _) LA0.out hle0).mono ?_
    rintro e w3 ⟨g3, rfl, hg3, hk3, hb3⟩
    have hB3 : Below w2.heap.size w2 w3 := Below.next (by go_grown) hb3
    have hT3 : Below w.heap.size w w3 := Below.next hT2 hB3
    have hz3 := hb3.size
    (try simp only [World.size_alloc, World.size_drew] at hz3)
    have W0_3 := Lib.hid (W0_2.out.next hB3)
    clear W0_2
    have HA0_3 := Lib.hid (HA0_0.out.below hT3)
    clear HA0_2
    have X0_3 := Lib.hid (show Own iC 2 1 w3 _ (.slice (some ⟨g3, 0, none⟩) n0 n0) xs0 from by have ho := Own.of_bk hk3 iC_len (by rw [LA0.out]; unfold maxLen; omega) hg3; rw [LA0.out] at ho; exact ho)
    have HI_X0 : Hid (∀ k, Value.ownBlock (.slice (some ⟨g3, 0, none⟩) n0 n0) = some k → w2.heap.size ≤ k ∧ k < w3.heap.size) := fun k hk => by have hl := X0_3.out.lt k hk; (try simp only [World.size_alloc, World.size_drew] at hl); exact hl
    go_wp2_with fail
    refine (iFromResiduals _ n0 n0 N code xs0 L _ (by first | exact (X0_3.out.rdS LA0.out) | exact (X0_3.out.rdS LA0.out).alloc _ | exact ((X0_3.out.rdS LA0.out).alloc _).alloc _ | exact (((X0_3.out.rdS LA0.out).alloc _).alloc _).alloc _ | exact (X0_3.out.rdS LA0.out).drew | exact ((X0_3.out.rdS LA0.out).drew).alloc _) LA0.out hle0 HR.out HN.out).mono ?_
    rintro e w4 ⟨A4, c4, rfl, ho4, hb4⟩
    have hB4 : Below w3.heap.size w3 w4 := Below.next (by go_grown) hb4
    have hT4 : Below w.heap.size w w4 := Below.next hT3 hB4
    have hz4 := hb4.size
    (try simp only [World.size_alloc, World.size_drew] at hz4)
    have W0_4 := Lib.hid (W0_3.out.next hB4)
    have X0_4 := Lib.hid (X0_3.out.next hB4)
    clear W0_3 X0_3
    have HA0_4 := Lib.hid (HA0_0.out.below hT4)
    clear HA0_3
    have G0_4 := Lib.hid (ho4)
    have HI_G0 : Hid (∀ k, Value.ownBlock (.slice A4 N c4) = some k → w3.heap.size ≤ k ∧ k < w4.heap.size) := fun k hk => by have hl := G0_4.out.lt k hk; (try simp only [World.size_alloc, World.size_drew] at hl); exact hl
    go_wp2_with fail
    refine (eqInt64S_same _ _ N _ _ L _ (by first | exact (G0_4.out.rdS HN.out) | exact (G0_4.out.rdS HN.out).alloc _ | exact ((G0_4.out.rdS HN.out).alloc _).alloc _ | exact (((G0_4.out.rdS HN.out).alloc _).alloc _).alloc _ | exact (G0_4.out.rdS HN.out).drew | exact ((G0_4.out.rdS HN.out).drew).alloc _) (by first | exact (W0_4.out.rdS HN.out) | exact (W0_4.out.rdS HN.out).alloc _ | exact ((W0_4.out.rdS HN.out).alloc _).alloc _ | exact (((W0_4.out.rdS HN.out).alloc _).alloc _).alloc _ | exact (W0_4.out.rdS HN.out).drew | exact ((W0_4.out.rdS HN.out).drew).alloc _) HN.out hN).mono ?_
    rintro e w5 ⟨rfl, hb5⟩
    have hB5 : Below w4.heap.size w4 w5 := Below.next (by go_grown) hb5
    have hT5 : Below w.heap.size w w5 := Below.next hT4 hB5
    have hz5 := hb5.size
    (try simp only [World.size_alloc, World.size_drew] at hz5)
    have W0_5 := Lib.hid (W0_4.out.next hB5)
    have X0_5 := Lib.hid (X0_4.out.next hB5)
    have G0_5 := Lib.hid (G0_4.out.next hB5)
    clear W0_4 X0_4 G0_4
    have HA0_5 := Lib.hid (HA0_0.out.below hT5)
    clear HA0_4
    go_wp2_with fail
    refine (toInt64S_any A0 n0 c0 xs0 _ (by first | exact HA0_5.out | exact HA0_5.out.alloc _ | exact (HA0_5.out.alloc _).alloc _ | exact ((HA0_5.out.alloc _).alloc _).alloc _ | exact HA0_5.out.drew | exact (HA0_5.out.drew).alloc _) LA0.out hle0).mono ?_
    rintro e w6 ⟨g6, rfl, hg6, hk6, hb6⟩
    have hB6 : Below w5.heap.size w5 w6 := Below.next (by go_grown) hb6
    have hT6 : Below w.heap.size w w6 := Below.next hT5 hB6
    have hz6 := hb6.size
    (try simp only [World.size_alloc, World.size_drew] at hz6)
    have W0_6 := Lib.hid (W0_5.out.next hB6)
    have X0_6 := Lib.hid (X0_5.out.next hB6)
    have G0_6 := Lib.hid (G0_5.out.next hB6)
    clear W0_5 X0_5 G0_5
    have HA0_6 := Lib.hid (HA0_0.out.below hT6)
    clear HA0_5
    have XE_6 := Lib.hid (show Own iC 2 1 w6 _ (.slice (some ⟨g6, 0, none⟩) n0 n0) xs0 from by have ho := Own.of_bk hk6 iC_len (by rw [LA0.out]; unfold maxLen; omega) hg6; rw [LA0.out] at ho; exact ho)
    have HI_XE : Hid (∀ k, Value.ownBlock (.slice (some ⟨g6, 0, none⟩) n0 n0) = some k → w5.heap.size ≤ k ∧ k < w6.heap.size) := fun k hk => by have hl := XE_6.out.lt k hk; (try simp only [World.size_alloc, World.size_drew] at hl); exact hl
    go_wp2_with fail
    refine (eqInt64S_same _ _ n0 _ _ xs0 _ (by first | exact (X0_6.out.rdS LA0.out) | exact (X0_6.out.rdS LA0.out).alloc _ | exact ((X0_6.out.rdS LA0.out).alloc _).alloc _ | exact (((X0_6.out.rdS LA0.out).alloc _).alloc _).alloc _ | exact (X0_6.out.rdS LA0.out).drew | exact ((X0_6.out.rdS LA0.out).drew).alloc _) (by first | exact (XE_6.out.rdS LA0.out) | exact (XE_6.out.rdS LA0.out).alloc _ | exact ((XE_6.out.rdS LA0.out).alloc _).alloc _ | exact (((XE_6.out.rdS LA0.out).alloc _).alloc _).alloc _ | exact (XE_6.out.rdS LA0.out).drew | exact ((XE_6.out.rdS LA0.out).drew).alloc _) LA0.out hle0).mono ?_
    rintro e w7 ⟨rfl, hb7⟩
    have hB7 : Below w6.heap.size w6 w7 := Below.next (by go_grown) hb7
    have hT7 : Below w.heap.size w w7 := Below.next hT6 hB7
    have hz7 := hb7.size
    (try simp only [World.size_alloc, World.size_drew] at hz7)
    have W0_7 := Lib.hid (W0_6.out.next hB7)
    have X0_7 := Lib.hid (X0_6.out.next hB7)
    have G0_7 := Lib.hid (G0_6.out.next hB7)
    have XE_7 := Lib.hid (XE_6.out.next hB7)
    clear W0_6 X0_6 G0_6 XE_6
    have HA0_7 := Lib.hid (HA0_0.out.below hT7)
    clear HA0_6
    go_wp2_with fail
    refine (markInt64S_any _ _ xs0 n0 1 _ (by first | exact X0_7.out | exact X0_7.out.alloc _ | exact X0_7.out.drew) LA0.out hle0 (by omega)).mono ?_
    rintro e w8 ⟨rfl, ho8, hg8⟩
    have hz8 : w7.heap.size ≤ w8.heap.size := hg8.size
    have hT8 : Below w.heap.size w w8 := hT7.grown hg8 (by omega) (fun k hk => by have h2 := HI_X0.out k hk; omega)
    have X0_8 := Lib.hid ho8
    have W0_8 := Lib.hid (W0_7.out.kept hg8 (fun k hk e => by have h1 := HI_W0.out k hk; have h2 := HI_X0.out k e.symm; omega))
    have G0_8 := Lib.hid (G0_7.out.kept hg8 (fun k hk e => by have h1 := HI_G0.out k hk; have h2 := HI_X0.out k e.symm; omega))
    have HA0_8 := Lib.hid (HA0_0.out.below hT8)
    clear W0_7 X0_7 G0_7 HA0_7
    go_wp2_with fail
    refine (eqInt64S_same _ _ N _ _ L _ (by first | exact (G0_8.out.rdS HN.out) | exact (G0_8.out.rdS HN.out).alloc _ | exact ((G0_8.out.rdS HN.out).alloc _).alloc _ | exact (((G0_8.out.rdS HN.out).alloc _).alloc _).alloc _ | exact (G0_8.out.rdS HN.out).drew | exact ((G0_8.out.rdS HN.out).drew).alloc _) (by first | exact (W0_8.out.rdS HN.out) | exact (W0_8.out.rdS HN.out).alloc _ | exact ((W0_8.out.rdS HN.out).alloc _).alloc _ | exact (((W0_8.out.rdS HN.out).alloc _).alloc _).alloc _ | exact (W0_8.out.rdS HN.out).drew | exact ((W0_8.out.rdS HN.out).drew).alloc _) HN.out hN).mono ?_
    rintro e w9 ⟨rfl, hb9⟩
    have hB9 : Below w8.heap.size w8 w9 := Below.next (by go_grown) hb9
    have hT9 : Below w.heap.size w w9 := Below.next hT8 hB9
    have hz9 := hb9.size
    (try simp only [World.size_alloc, World.size_drew] at hz9)
    have W0_9 := Lib.hid (W0_8.out.next hB9)
    have X0_9 := Lib.hid (X0_8.out.next hB9)
    have G0_9 := Lib.hid (G0_8.out.next hB9)
    clear W0_8 X0_8 G0_8
    have HA0_9 := Lib.hid (HA0_0.out.below hT9)
    clear HA0_8
    (try clear hk3)
    go_wp2_with fail
    refine (markInt64S_any _ _ L N 1 _ (by first | exact G0_9.out | exact G0_9.out.alloc _ | exact G0_9.out.drew) HN.out hN (by omega)).mono ?_
    rintro e w10 ⟨rfl, ho10, hg10⟩
    have hz10 : w9.heap.size ≤ w10.heap.size := hg10.size
    have hT10 : Below w.heap.size w w10 := hT9.grown hg10 (by omega) (fun k hk => by have h2 := HI_G0.out k hk; omega)
    have G0_10 := Lib.hid ho10
    have W0_10 := Lib.hid (W0_9.out.kept hg10 (fun k hk e => by have h1 := HI_W0.out k hk; have h2 := HI_G0.out k e.symm; omega))
    have HA0_10 := Lib.hid (HA0_0.out.below hT10)
    clear W0_9 G0_9 HA0_9
    go_wp2_with fail
    refine (heldInt64S_any _ N _ 1 _ (by first | exact (G0_10.out.rdS (marksI_len 1 N)) | exact (G0_10.out.rdS (marksI_len 1 N)).alloc _ | exact ((G0_10.out.rdS (marksI_len 1 N)).alloc _).alloc _ | exact (((G0_10.out.rdS (marksI_len 1 N)).alloc _).alloc _).alloc _ | exact (G0_10.out.rdS (marksI_len 1 N)).drew | exact ((G0_10.out.rdS (marksI_len 1 N)).drew).alloc _) hN (by omega)).mono ?_
    rintro e w' ⟨rfl, rfl⟩
    go_wp2_with fail
    refine (toInt64S_any A0 n0 c0 xs0 _ (by first | exact HA0_10.out | exact HA0_10.out.alloc _ | exact (HA0_10.out.alloc _).alloc _ | exact ((HA0_10.out.alloc _).alloc _).alloc _ | exact HA0_10.out.drew | exact (HA0_10.out.drew).alloc _) LA0.out hle0).mono ?_
    rintro e w11 ⟨g11, rfl, hg11, hk11, hb11⟩
    have hB11 : Below w10.heap.size w10 w11 := Below.next (by go_grown) hb11
    have hT11 : Below w.heap.size w w11 := Below.next hT10 hB11
    have hz11 := hb11.size
    (try simp only [World.size_alloc, World.size_drew] at hz11)
    have W0_11 := Lib.hid (W0_10.out.next hB11)
    have G0_11 := Lib.hid (G0_10.out.next hB11)
    clear W0_10 G0_10
    have HA0_11 := Lib.hid (HA0_0.out.below hT11)
    clear HA0_10
    have XH_11 := Lib.hid (show Own iC 2 1 w11 _ (.slice (some ⟨g11, 0, none⟩) n0 n0) xs0 from by have ho := Own.of_bk hk11 iC_len (by rw [LA0.out]; unfold maxLen; omega) hg11; rw [LA0.out] at ho; exact ho)
    have HI_XH : Hid (∀ k, Value.ownBlock (.slice (some ⟨g11, 0, none⟩) n0 n0) = some k → w10.heap.size ≤ k ∧ k < w11.heap.size) := fun k hk => by have hl := XH_11.out.lt k hk; (try simp only [World.size_alloc, World.size_drew] at hl); exact hl
    go_wp2_with fail
    refine (iFromResiduals _ n0 n0 N code xs0 L _ (by first | exact (XH_11.out.rdS LA0.out) | exact (XH_11.out.rdS LA0.out).alloc _ | exact ((XH_11.out.rdS LA0.out).alloc _).alloc _ | exact (((XH_11.out.rdS LA0.out).alloc _).alloc _).alloc _ | exact (XH_11.out.rdS LA0.out).drew | exact ((XH_11.out.rdS LA0.out).drew).alloc _) LA0.out hle0 HR.out HN.out).mono ?_
    rintro e w12 ⟨A12, c12, rfl, ho12, hb12⟩
    have hB12 : Below w11.heap.size w11 w12 := Below.next (by go_grown) hb12
    have hT12 : Below w.heap.size w w12 := Below.next hT11 hB12
    have hz12 := hb12.size
    (try simp only [World.size_alloc, World.size_drew] at hz12)
    have W0_12 := Lib.hid (W0_11.out.next hB12)
    have G0_12 := Lib.hid (G0_11.out.next hB12)
    have XH_12 := Lib.hid (XH_11.out.next hB12)
    clear W0_11 G0_11 XH_11
    have HA0_12 := Lib.hid (HA0_0.out.below hT12)
    clear HA0_11
    have H0_12 := Lib.hid (ho12)
    have HI_H0 : Hid (∀ k, Value.ownBlock (.slice A12 N c12) = some k → w11.heap.size ≤ k ∧ k < w12.heap.size) := fun k hk => by have hl := H0_12.out.lt k hk; (try simp only [World.size_alloc, World.size_drew] at hl); exact hl
    go_wp2_with fail
    refine (eqInt64S_same _ _ N _ _ L _ (by first | exact (H0_12.out.rdS HN.out) | exact (H0_12.out.rdS HN.out).alloc _ | exact ((H0_12.out.rdS HN.out).alloc _).alloc _ | exact (((H0_12.out.rdS HN.out).alloc _).alloc _).alloc _ | exact (H0_12.out.rdS HN.out).drew | exact ((H0_12.out.rdS HN.out).drew).alloc _) (by first | exact (W0_12.out.rdS HN.out) | exact (W0_12.out.rdS HN.out).alloc _ | exact ((W0_12.out.rdS HN.out).alloc _).alloc _ | exact (((W0_12.out.rdS HN.out).alloc _).alloc _).alloc _ | exact (W0_12.out.rdS HN.out).drew | exact ((W0_12.out.rdS HN.out).drew).alloc _) HN.out hN).mono ?_
    rintro e w13 ⟨rfl, hb13⟩
    have hB13 : Below w12.heap.size w12 w13 := Below.next (by go_grown) hb13
    have hT13 : Below w.heap.size w w13 := Below.next hT12 hB13
    have hz13 := hb13.size
    (try simp only [World.size_alloc, World.size_drew] at hz13)
    have W0_13 := Lib.hid (W0_12.out.next hB13)
    have G0_13 := Lib.hid (G0_12.out.next hB13)
    have H0_13 := Lib.hid (H0_12.out.next hB13)
    clear W0_12 G0_12 H0_12
    have HA0_13 := Lib.hid (HA0_0.out.below hT13)
    clear HA0_12
    go_wp2_with fail
    refine (heldInt64S_any _ N _ 1 _ (by first | exact (G0_13.out.rdS (marksI_len 1 N)) | exact (G0_13.out.rdS (marksI_len 1 N)).alloc _ | exact ((G0_13.out.rdS (marksI_len 1 N)).alloc _).alloc _ | exact (((G0_13.out.rdS (marksI_len 1 N)).alloc _).alloc _).alloc _ | exact (G0_13.out.rdS (marksI_len 1 N)).drew | exact ((G0_13.out.rdS (marksI_len 1 N)).drew).alloc _) hN (by omega)).mono ?_
    rintro e w' ⟨rfl, rfl⟩
    go_wp2_with fail
    go_ret
    exact ⟨rfl, by go_grown⟩

theorem law_FromResiduals {w : World} (s0 : Li) (hs0 : s0.good w) (_ : World) :
    Calls Try.prog 4 #[.slice s0.A s0.l.length s0.c] w (Yes w) :=
  FromResiduals_walk s0.A _ _ _ hs0.2.2 rfl (Nat.le_trans hs0.1 hs0.2.1)
end Go.Proofs.Ytldpagjljiklhaa
