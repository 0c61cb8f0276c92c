/-
  The law of SplitWords returns true: program and reference list the same words; the list is the caller's own.
-/
import Derived.Test.YtgpmlpneffbbbaaDoorWords
import Derived.Test.YtgpmlpneffbbbaaDoorBaseC
namespace Go.Proofs.YtgpmlpneffbbbaaDoor
set_option linter.unusedSimpArgs false
set_option linter.unusedVariables false
set_option maxRecDepth 20000
open Go.RowKit
open Go.ChangeShapes Go.WideShapes Go.Deep Go.Joins

theorem sSplitWords_n (s : ByteArray) (N : Nat) (L : List ByteArray) (w : World) (hL : wordsB s = L) (hN : L.length = N) (hs : s.size ≤ 1048576) :
    Calls Tryd.prog 10 #[.string s] w fun e w' => ∃ A2 c2, e = .returned (.slice A2 N c2) ∧ Own sC 9 1 w' w.heap.size (.slice A2 N c2) L ∧ Below w.heap.size w w' := by
  subst hL; subst hN; exact sSplitWords s w hs
theorem iSplitWords_n (s : ByteArray) (N : Nat) (L : List ByteArray) (w : World) (hL : wordsB s = L) (hN : L.length = N) (hs : s.size ≤ 1048576) (hm : MaxIs w) :
    Calls Tryd.prog 11 #[.string s] w fun e w' => ∃ A2 c2, e = .returned (.slice A2 N c2) ∧ Own sC 9 1 w' w.heap.size (.slice A2 N c2) L ∧ Below w.heap.size w w' := by
  subst hL; subst hN; exact iSplitWords s w hs hm
set_option maxHeartbeats 8000000 in
set_option maxRecDepth 100000 in
theorem SplitWords_walk (s : ByteArray) (w : World) (hm : MaxIs w) : Calls Tryd.prog 4 #[.string s] w (Yes w) := by
  have MX_0 := Lib.hid hm
  clear hm
  by_cases hle : s.size ≤ 1048576
  rotate_left
  · go_enter Tryd.func4, Tryd.ntmps4
    go_wp2_with fail
    go_ret
    exact ⟨rfl, Below.refl _ _⟩
  · obtain ⟨L, hL0⟩ : ∃ L, wordsB s = L := ⟨_, rfl⟩
    obtain ⟨N, hN0⟩ : ∃ N, L.length = N := ⟨_, rfl⟩
    have hNb : N ≤ 1048577 := by have := wordsB_len s; rw [hL0, hN0] at this; omega
    have HL := Lib.hid hL0
    have HN := Lib.hid hN0
    clear hL0 hN0
    have hT0 : Below w.heap.size w w := Below.refl _ _
    go_enter Tryd.func4, Tryd.ntmps4
    go_wp2_with fail
    refine (sSplitWords_n s N L _ HL.out HN.out hle).mono ?_
    rintro e w1 ⟨A1, c1, rfl, ho1, hb1⟩
    have hB1 : Below w.heap.size w w1 := Below.next (by go_grown) hb1
    have hT1 : Below w.heap.size w w1 := hB1
    have hz1 := hb1.size
    (try simp only [World.size_alloc, World.size_drew] at hz1)
    have MX_1 := Lib.hid (MX_0.out.below hB1)
    have W0_1 := Lib.hid (ho1)
    have HI_W0 : Hid (∀ k, Value.ownBlock (.slice A1 N c1) = some k → w.heap.size ≤ k ∧ k < w1.heap.size) := fun k hk => by have hl := W0_1.out.lt k hk; (try simp only [World.size_alloc, World.size_drew] at hl); exact hl
    go_wp2_with fail
    refine (iSplitWords_n s N L _ HL.out HN.out hle (by first | exact MX_1.out | exact MX_1.out.alloc _ | exact (MX_1.out.alloc _).alloc _ | exact ((MX_1.out.alloc _).alloc _).alloc _ | exact MX_1.out.drew | exact (MX_1.out.drew).alloc _)).mono ?_
    rintro e w2 ⟨A2, c2, rfl, ho2, hb2⟩
    have hB2 : Below w1.heap.size w1 w2 := Below.next (by go_grown) hb2
    have hT2 : Below w.heap.size w w2 := Below.next hT1 hB2
    have hz2 := hb2.size
    (try simp only [World.size_alloc, World.size_drew] at hz2)
    have MX_2 := Lib.hid (MX_1.out.below hB2)
    clear MX_1
    have W0_2 := Lib.hid (W0_1.out.next hB2)
    clear W0_1
    have G0_2 := Lib.hid (ho2)
    have HI_G0 : Hid (∀ k, Value.ownBlock (.slice A2 N c2) = some k → w1.heap.size ≤ k ∧ k < w2.heap.size) := fun k hk => by have hl := G0_2.out.lt k hk; (try simp only [World.size_alloc, World.size_drew] at hl); exact hl
    go_wp2_with fail
    refine (eqStringS_same _ _ N _ _ L _ (by first | exact (G0_2.out.rdS HN.out) | exact (G0_2.out.rdS HN.out).alloc _ | exact ((G0_2.out.rdS HN.out).alloc _).alloc _ | exact (((G0_2.out.rdS HN.out).alloc _).alloc _).alloc _ | exact (G0_2.out.rdS HN.out).drew | exact ((G0_2.out.rdS HN.out).drew).alloc _) (by first | exact (W0_2.out.rdS HN.out) | exact (W0_2.out.rdS HN.out).alloc _ | exact ((W0_2.out.rdS HN.out).alloc _).alloc _ | exact (((W0_2.out.rdS HN.out).alloc _).alloc _).alloc _ | exact (W0_2.out.rdS HN.out).drew | exact ((W0_2.out.rdS HN.out).drew).alloc _) HN.out (by omega)).mono ?_
    rintro e w3 ⟨rfl, hb3⟩
    have hB3 : Below w2.heap.size w2 w3 := Below.next (by go_grown) hb3
    have hT3 : Below w.heap.size w w3 := Below.next hT2 hB3
    have hz3 := hb3.size
    (try simp only [World.size_alloc, World.size_drew] at hz3)
    have MX_3 := Lib.hid (MX_2.out.below hB3)
    clear MX_2
    have W0_3 := Lib.hid (W0_2.out.next hB3)
    have G0_3 := Lib.hid (G0_2.out.next hB3)
    clear W0_2 G0_2
    go_wp2_with fail
    refine (markStringS_any _ _ L N 1 _ (by first | exact G0_3.out | exact G0_3.out.alloc _ | exact G0_3.out.drew) HN.out (by omega) (by omega) (by omega)).mono ?_
    rintro e w4 ⟨rfl, ho4, hg4⟩
    have hz4 : w3.heap.size ≤ w4.heap.size := hg4.size
    have hT4 : Below w.heap.size w w4 := hT3.grown hg4 (by omega) (fun k hk => by have h2 := HI_G0.out k hk; omega)
    have G0_4 := Lib.hid ho4
    have W0_4 := Lib.hid (W0_3.out.kept hg4 (fun k hk e => by have h1 := HI_W0.out k hk; have h2 := HI_G0.out k e.symm; omega))
    clear W0_3 G0_3
    have MX_4 := Lib.hid (MX_0.out.below hT4)
    clear MX_3
    go_wp2_with fail
    refine (heldStringS_any _ N _ 1 _ (by first | exact (G0_4.out.rdS (marksS_len 1 N)) | exact (G0_4.out.rdS (marksS_len 1 N)).alloc _ | exact ((G0_4.out.rdS (marksS_len 1 N)).alloc _).alloc _ | exact (((G0_4.out.rdS (marksS_len 1 N)).alloc _).alloc _).alloc _ | exact (G0_4.out.rdS (marksS_len 1 N)).drew | exact ((G0_4.out.rdS (marksS_len 1 N)).drew).alloc _) (by omega) (by omega) (by omega)).mono ?_
    rintro e w5 ⟨rfl, hb5⟩
    have hB5 : Below w4.heap.size w4 w5 := Below.next (by go_grown) hb5
    have hT5 : Below w.heap.size w w5 := Below.next hT4 hB5
    have hz5 := hb5.size
    (try simp only [World.size_alloc, World.size_drew] at hz5)
    have MX_5 := Lib.hid (MX_4.out.below hB5)
    clear MX_4
    have W0_5 := Lib.hid (W0_4.out.next hB5)
    have G0_5 := Lib.hid (G0_4.out.next hB5)
    clear W0_4 G0_4
    go_wp2_with fail
    refine (iSplitWords_n s N L _ HL.out HN.out hle (by first | exact MX_5.out | exact MX_5.out.alloc _ | exact (MX_5.out.alloc _).alloc _ | exact ((MX_5.out.alloc _).alloc _).alloc _ | exact MX_5.out.drew | exact (MX_5.out.drew).alloc _)).mono ?_
    rintro e w6 ⟨A6, c6, rfl, ho6, hb6⟩
    have hB6 : Below w5.heap.size w5 w6 := Below.next (by go_grown) hb6
    have hT6 : Below w.heap.size w w6 := Below.next hT5 hB6
    have hz6 := hb6.size
    (try simp only [World.size_alloc, World.size_drew] at hz6)
    have MX_6 := Lib.hid (MX_5.out.below hB6)
    clear MX_5
    have W0_6 := Lib.hid (W0_5.out.next hB6)
    have G0_6 := Lib.hid (G0_5.out.next hB6)
    clear W0_5 G0_5
    have H0_6 := Lib.hid (ho6)
    have HI_H0 : Hid (∀ k, Value.ownBlock (.slice A6 N c6) = some k → w5.heap.size ≤ k ∧ k < w6.heap.size) := fun k hk => by have hl := H0_6.out.lt k hk; (try simp only [World.size_alloc, World.size_drew] at hl); exact hl
    go_wp2_with fail
    refine (eqStringS_same _ _ N _ _ L _ (by first | exact (H0_6.out.rdS HN.out) | exact (H0_6.out.rdS HN.out).alloc _ | exact ((H0_6.out.rdS HN.out).alloc _).alloc _ | exact (((H0_6.out.rdS HN.out).alloc _).alloc _).alloc _ | exact (H0_6.out.rdS HN.out).drew | exact ((H0_6.out.rdS HN.out).drew).alloc _) (by first | exact (W0_6.out.rdS HN.out) | exact (W0_6.out.rdS HN.out).alloc _ | exact ((W0_6.out.rdS HN.out).alloc _).alloc _ | exact (((W0_6.out.rdS HN.out).alloc _).alloc _).alloc _ | exact (W0_6.out.rdS HN.out).drew | exact ((W0_6.out.rdS HN.out).drew).alloc _) HN.out (by omega)).mono ?_
    rintro e w7 ⟨rfl, hb7⟩
    have hB7 : Below w6.heap.size w6 w7 := Below.next (by go_grown) hb7
    have hT7 : Below w.heap.size w w7 := Below.next hT6 hB7
    have hz7 := hb7.size
    (try simp only [World.size_alloc, World.size_drew] at hz7)
    have MX_7 := Lib.hid (MX_6.out.below hB7)
    clear MX_6
    have W0_7 := Lib.hid (W0_6.out.next hB7)
    have G0_7 := Lib.hid (G0_6.out.next hB7)
    have H0_7 := Lib.hid (H0_6.out.next hB7)
    clear W0_6 G0_6 H0_6
    go_wp2_with fail
    refine (heldStringS_any _ N _ 1 _ (by first | exact (G0_7.out.rdS (marksS_len 1 N)) | exact (G0_7.out.rdS (marksS_len 1 N)).alloc _ | exact ((G0_7.out.rdS (marksS_len 1 N)).alloc _).alloc _ | exact (((G0_7.out.rdS (marksS_len 1 N)).alloc _).alloc _).alloc _ | exact (G0_7.out.rdS (marksS_len 1 N)).drew | exact ((G0_7.out.rdS (marksS_len 1 N)).drew).alloc _) (by omega) (by omega) (by omega)).mono ?_
    rintro e w8 ⟨rfl, hb8⟩
    have hB8 : Below w7.heap.size w7 w8 := Below.next (by go_grown) hb8
    have hT8 : Below w.heap.size w w8 := Below.next hT7 hB8
    have hz8 := hb8.size
    (try simp only [World.size_alloc, World.size_drew] at hz8)
    have MX_8 := Lib.hid (MX_7.out.below hB8)
    clear MX_7
    have W0_8 := Lib.hid (W0_7.out.next hB8)
    have G0_8 := Lib.hid (G0_7.out.next hB8)
    have H0_8 := Lib.hid (H0_7.out.next hB8)
    clear W0_7 G0_7 H0_7
    go_wp2_with fail
    go_ret
    exact ⟨rfl, by go_grown⟩
theorem law_SplitWords {W : World} (s : ByteArray) (h : s.size ≤ maxLen) (_ : World) (hL : laidMet Tryd.prog Rows.fnExactSplitWordsRow.laid W) (hsh : W.ShapedOpen Tryd.prog) : Calls Tryd.prog 4 #[.string s] W (Yes W) := SplitWords_walk s W (MaxIs.of hsh)
end Go.Proofs.YtgpmlpneffbbbaaDoor
