/-
  A stroke read from bits: the walk of the reference.
-/
import Derived.Test.YtinlhigpmchiaaaGreatDoorDcS
namespace Go.Proofs.YtinlhigpmchiaaaGreatDoor
set_option linter.unusedSimpArgs false
set_option linter.unusedVariables false
set_option maxRecDepth 20000
open Go.RowKit
open Go.ChangeShapes Go.WideShapes Go.Deep Go.Joins

set_option maxHeartbeats 16000000 in
theorem sstroke_any (b : Nat) (s : ByteArray) (a : Nat) (f : Bool) (w : World) (hb : Bk w b 34 #[.string s, .int .i64 (a : Int), .bool f]) (hs : s.size ≤ 8388608) (hall : Hid (s.data.toList.all isBit = true)) (ha : a ≤ s.size) :
    Calls Tryz.prog 12 #[.pointer (some ⟨b, 0, none⟩)] w fun e w' => ∃ (A2 : Option Addr) (c2 N : Nat) (L : List Pt) (t : Nat) (g : Bool), e = .returned (.agg #[.slice A2 N c2]) ∧ L.length = N ∧ N ≤ 255 ∧ Own ptC 58 3 w' w.heap.size (.slice A2 N c2) L ∧ Bk w' b 34 #[.string s, .int .i64 (t : Int), .bool g] ∧ t ≤ s.size ∧ Apart b w.heap.size w w' ∧ Got (skO colS s a) f L t g := by
  have hltw := hb.lt
  have HN := snum_any b s a 8 f _ (hb.alloc (.cells #[.slice none 0 0] 38)) hs hall ha (by omega)
  have HR0 : Hid (Bk (w.alloc (.cells #[.slice none 0 0] 38)) w.heap.size 38 #[.slice none 0 0]) := Bk.new w _ _
  have hW1 : Below w.heap.size w (w.alloc (.cells #[.slice none 0 0] 38)) := by go_grown
  have HW1 := Lib.hid hW1
  clear hb hW1
  go_enter Tryz.func12, Tryz.ntmps12
  go_wp2_with fail
  refine HN.mono ?_
  rintro e w1 ⟨v, p1, g1, rfl, hb1, hv, hp1, hA1, hG1⟩
  have hz1 := hA1.size
  (try simp only [World.size_alloc] at hz1)
  have HB1 := Lib.hid hb1
  have HR1 := Lib.hid (hA1.bk HR0.out (by simp only [World.size_alloc]; omega) (by omega))
  have HA1 : Hid (Apart b w.heap.size w w1) := (Apart.of_below HW1.out).trans (hA1.mono (by simp only [World.size_alloc]; omega))
  have HG1 := Lib.hid hG1
  clear hb1 hA1 hG1 HN HR0 HW1
  go_wp2_with fail
  refine (scol_any b s p1 v g1 _ HB1.out hs hall hp1 (by omega)).mono ?_
  rintro e w2 ⟨A2, c2, N2, X, p2, g2, rfl, hN2, ho2, hb2, hp2, hA2, hG2⟩
  have hz2 := hA2.size
  have HB2 := Lib.hid hb2
  have HR2 := Lib.hid (hA2.bk HR1.out (by omega) (by omega))
  have HA2 : Hid (Apart b w.heap.size w w2) := HA1.out.trans (hA2.mono (by omega))
  have HG2 := Lib.hid hG2
  have HN2 := Lib.hid hN2
  have HI2 : Hid (∀ k, Value.ownBlock (.slice A2 N2 c2) = some k → w1.heap.size ≤ k ∧ k < w2.heap.size) := ho2.lt
  have HO2_2 := Lib.hid ho2
  clear hb2 hA2 hG2 hN2 ho2
  go_wp2_with fail
  refine (scol_any b s p2 v g2 _ HB2.out hs hall hp2 (by omega)).mono ?_
  rintro e w3 ⟨A3, c3, N3, Y, p3, g3, rfl, hN3, ho3, hb3, hp3, hA3, hG3⟩
  have hz3 := hA3.size
  have HB3 := Lib.hid hb3
  have HR3 := Lib.hid (hA3.bk HR2.out (by omega) (by omega))
  have HA3 : Hid (Apart b w.heap.size w w3) := HA2.out.trans (hA3.mono (by omega))
  have HG3 := Lib.hid hG3
  have HN3 := Lib.hid hN3
  have HI3 : Hid (∀ k, Value.ownBlock (.slice A3 N3 c3) = some k → w2.heap.size ≤ k ∧ k < w3.heap.size) := ho3.lt
  have HO3_3 := Lib.hid ho3
  have HO2_3 := Lib.hid (hA3.own HO2_2.out (fun k hk => by have h1 := HI2.out k hk; omega))
  clear HO2_2
  clear hb3 hA3 hG3 hN3 ho3
  go_wp2_with fail
  refine (scol_any b s p3 v g3 _ HB3.out hs hall hp3 (by omega)).mono ?_
  rintro e w4 ⟨A4, c4, N4, Z, p4, g4, rfl, hN4, ho4, hb4, hp4, hA4, hG4⟩
  have hz4 := hA4.size
  have HB4 := Lib.hid hb4
  have HR4 := Lib.hid (hA4.bk HR3.out (by omega) (by omega))
  have HA4 : Hid (Apart b w.heap.size w w4) := HA3.out.trans (hA4.mono (by omega))
  have HG4 := Lib.hid hG4
  have HN4 := Lib.hid hN4
  have HI4 : Hid (∀ k, Value.ownBlock (.slice A4 N4 c4) = some k → w3.heap.size ≤ k ∧ k < w4.heap.size) := ho4.lt
  have HO4_4 := Lib.hid ho4
  have HO2_4 := Lib.hid (hA4.own HO2_3.out (fun k hk => by have h1 := HI2.out k hk; omega))
  clear HO2_3
  have HO3_4 := Lib.hid (hA4.own HO3_3.out (fun k hk => by have h1 := HI3.out k hk; omega))
  clear HO3_3
  clear hb4 hA4 hG4 hN4 ho4
  have HR4 := HR4
  obtain ⟨⟨c0, f0⟩, ⟨c1, f1⟩, c20, f20⟩ := bk3 HB4.out
  have hlt4 := HB4.out.lt
  obtain ⟨r0, fr0⟩ := bk1 HR4.out
  have hltr4 := HR4.out.lt
  cases g4
  · obtain ⟨rfl, hn0, hn1, hn2, hn3⟩ := sk_good HG1.out HG2.out HG3.out HG4.out
    have lx : X.length = v := (colS_is hall.out hn1).1
    have ly : Y.length = v := (colS_is hall.out hn2).1
    have lz : Z.length = v := (colS_is hall.out hn3).1
    obtain rfl : v = N2 := by rw [← lx, HN2.out]
    obtain rfl : v = N3 := by rw [← ly, HN3.out]
    obtain rfl : v = N4 := by rw [← lz, HN4.out]
    have HY : Hid (skO colS s a = some (zipTo X Y Z v, p4)) := skO_yes hn0 hn1 hn2 hn3
    have LX := Lib.hid lx
    have LY := Lib.hid ly
    have LZ := Lib.hid lz
    have hrx : Hid (Rd w4 A2 v 1 (rowOf iC X)) := (HO2_4.out.rdS lx)
    have hry : Hid (Rd w4 A3 v 1 (rowOf iC Y)) := (HO3_4.out.rdS ly)
    have hrz : Hid (Rd w4 A4 v 1 (rowOf iC Z)) := (HO4_4.out.rdS lz)
    clear hn0 hn1 hn2 hn3 lx ly lz HG1 HG2 HG3 HG4
    have HI0 : Hid (Bk (w4.alloc (.cells #[.slice none 0 0] 38)) w4.heap.size 38 #[.slice none 0 0]) := Bk.new w4 _ _
    have HRD4 : Hid (Bk w4 b 34 #[.string s, .int .i64 (p4 : Int), .bool false]) := HB4.out
    go_wp2_with fail
    clear c0 f0 c1 f1 c20 f20 r0 fr0
    go_loopw [8] (fun i wr => ∃ (k : Nat) (u : Value), k ≤ v ∧ i = .int .i64 (k : Int) ∧ Bk wr w4.heap.size 38 #[u] ∧ Own ptC 58 3 wr (w4.heap.size + 1) u (zipTo X Y Z k) ∧ Below w4.heap.size (w4.alloc (.cells #[.slice none 0 0] 38)) wr) (fun i _ => v - (intOf i).toNat)
    case atStart => exact ⟨0, .slice none 0 0, Nat.zero_le _, rfl, HI0.out, Own.nil _ _ _ _ _, Below.refl _ _⟩
    case round =>
      obtain ⟨k, u, hk, rfl, hbk2, hown, hB⟩ := hrel
      have hgl2 := hbk2.lt
      have hBs := hB.size
      simp only [World.size_alloc] at hBs
      have HBV := Lib.hid hbk2
      have HO := Lib.hid hown
      have HI : Hid (∀ k, u.ownBlock = some k → w4.heap.size + 1 ≤ k ∧ k < wr.heap.size) := hown.lt
      obtain ⟨e0, f0⟩ := bk1 hbk2
      have hB0 : Below w4.heap.size w4 wr := ((Below.refl _ _).alloc (Nat.le_refl _) _).trans hB
      have hbkr := HRD4.out.next hB0
      obtain ⟨⟨d0, k0⟩, ⟨d1, k1⟩, d2, k2⟩ := bk3 hbkr
      have hltr := hbkr.lt
      clear hown hbk2
      by_cases hlt : k < v
      · have kx : k < X.length := by rw [LX.out]; exact hlt
        have ky : k < Y.length := by rw [LY.out]; exact hlt
        have kz : k < Z.length := by rw [LZ.out]; exact hlt
        obtain ⟨bx, ox, e1, lx, hx⟩ := hrx.out.at iC_len LX.out kx
        obtain ⟨by_, oy, e2, ly, hy⟩ := hry.out.at iC_len LY.out ky
        obtain ⟨bz, oz, e3, lz, hz⟩ := hrz.out.at iC_len LZ.out kz
        have ax : wr.cell? ⟨bx, ox + k, none⟩ = some (.int .i64 X[k]) := (hB0.cell (p := ⟨bx, ox + k, none⟩) lx).trans (by simpa using hx 0 _ rfl)
        have ay : wr.cell? ⟨by_, oy + k, none⟩ = some (.int .i64 Y[k]) := (hB0.cell (p := ⟨by_, oy + k, none⟩) ly).trans (by simpa using hy 0 _ rfl)
        have az : wr.cell? ⟨bz, oz + k, none⟩ = some (.int .i64 Z[k]) := (hB0.cell (p := ⟨bz, oz + k, none⟩) lz).trans (by simpa using hz 0 _ rfl)
        have hux : ¬ u.ownBlock = some bx := fun e => by have h2 := HI.out _ e; omega
        have huy : ¬ u.ownBlock = some by_ := fun e => by have h2 := HI.out _ e; omega
        have huz : ¬ u.ownBlock = some bz := fun e => by have h2 := HI.out _ e; omega
        have hnx : ¬ bx = w4.heap.size := by omega
        have hny : ¬ by_ = w4.heap.size := by omega
        have hnz : ¬ bz = w4.heap.size := by omega
        have hlx : bx < wr.heap.size := by omega
        have hly : by_ < wr.heap.size := by omega
        have hlz : bz < wr.heap.size := by omega
        have hk0 : (0 : Int) ≤ (k : Int) := by omega
        have hkv : (k : Int) < (v : Int) := by omega
        have HNX : Hid (zipTo X Y Z (k + 1) = zipTo X Y Z k ++ [⟨X[k], Y[k], Z[k]⟩]) := zip_at kx ky kz
        subst e1; subst e2; subst e3
        clear hx hy hz
        go_wp2_with fail
        refine wp_region_held_drew (S := (fun w' => (∀ kb ko, kb < wr.heap.size → ¬ u.ownBlock = some kb → ¬ kb = w4.heap.size → w'.cell? ⟨kb, ko, none⟩ = wr.cell? ⟨kb, ko, none⟩) ∧ wr.heap.size ≤ w'.heap.size ∧ Below w4.heap.size wr w')) (by kernel_rfl) ?_ (fun hHeld => ?_)
        · (try dsimp only); exact S2.mk ((Below.refl _ _).drew) (by omega)
        first | (refine take_on (i := 0) (v := ?_) rfl (by kernel_rfl) (by kernel_rfl) (by kernel_rfl) (fun _ _ _ h => h) rfl ?_ (by assumption) ?_; rotate_left; · (intro w' hSw; (try dsimp only at hSw); go_simp; (try with_reducible rfl))) | (refine take_off (i := 0) rfl (by kernel_rfl) (by kernel_rfl) (by kernel_rfl) (fun _ _ _ h => h) rfl (by assumption) ?_)
        (try simp only [Act.put, List.setIfInBounds_toArray, List.set_cons_zero, List.set_cons_succ])
        first | (refine take_on (i := 2) (v := ?_) rfl (by kernel_rfl) (by kernel_rfl) (by kernel_rfl) (fun _ _ _ h => h) rfl ?_ (by assumption) ?_; rotate_left; · (intro w' hSw; (try dsimp only at hSw); go_simp; (try with_reducible rfl))) | (refine take_off (i := 2) rfl (by kernel_rfl) (by kernel_rfl) (by kernel_rfl) (fun _ _ _ h => h) rfl (by assumption) ?_)
        (try simp only [Act.put, List.setIfInBounds_toArray, List.set_cons_zero, List.set_cons_succ])
        first | (refine take_on (i := 3) (v := ?_) rfl (by kernel_rfl) (by kernel_rfl) (by kernel_rfl) (fun _ _ _ h => h) rfl ?_ (by assumption) ?_; rotate_left; · (intro w' hSw; (try dsimp only at hSw); go_simp; (try with_reducible rfl))) | (refine take_off (i := 3) rfl (by kernel_rfl) (by kernel_rfl) (by kernel_rfl) (fun _ _ _ h => h) rfl (by assumption) ?_)
        (try simp only [Act.put, List.setIfInBounds_toArray, List.set_cons_zero, List.set_cons_succ])
        first | (refine take_on (i := 4) (v := ?_) rfl (by kernel_rfl) (by kernel_rfl) (by kernel_rfl) (fun _ _ _ h => h) rfl ?_ (by assumption) ?_; rotate_left; · (intro w' hSw; (try dsimp only at hSw); go_simp; (try with_reducible rfl))) | (refine take_off (i := 4) rfl (by kernel_rfl) (by kernel_rfl) (by kernel_rfl) (fun _ _ _ h => h) rfl (by assumption) ?_)
        (try simp only [Act.put, List.setIfInBounds_toArray, List.set_cons_zero, List.set_cons_succ])
        first | (refine take_on (i := 5) (v := ?_) rfl (by kernel_rfl) (by kernel_rfl) (by kernel_rfl) (fun _ _ _ h => h) rfl ?_ (by assumption) ?_; rotate_left; · (intro w' hSw; (try dsimp only at hSw); go_simp; (try with_reducible rfl))) | (refine take_off (i := 5) rfl (by kernel_rfl) (by kernel_rfl) (by kernel_rfl) (fun _ _ _ h => h) rfl (by assumption) ?_)
        (try simp only [Act.put, List.setIfInBounds_toArray, List.set_cons_zero, List.set_cons_succ])
        first | (refine take_on (i := 6) (v := ?_) rfl (by kernel_rfl) (by kernel_rfl) (by kernel_rfl) (fun _ _ _ h => h) rfl ?_ (by assumption) ?_; rotate_left; · (intro w' hSw; (try dsimp only at hSw); go_simp; (try with_reducible rfl))) | (refine take_off (i := 6) rfl (by kernel_rfl) (by kernel_rfl) (by kernel_rfl) (fun _ _ _ h => h) rfl (by assumption) ?_)
        (try simp only [Act.put, List.setIfInBounds_toArray, List.set_cons_zero, List.set_cons_succ])
        first | (refine take_on (i := 7) (v := ?_) rfl (by kernel_rfl) (by kernel_rfl) (by kernel_rfl) (fun _ _ _ h => h) rfl ?_ (by assumption) ?_; rotate_left; · (intro w' hSw; (try dsimp only at hSw); go_simp; (try with_reducible rfl))) | (refine take_off (i := 7) rfl (by kernel_rfl) (by kernel_rfl) (by kernel_rfl) (fun _ _ _ h => h) rfl (by assumption) ?_)
        (try simp only [Act.put, List.setIfInBounds_toArray, List.set_cons_zero, List.set_cons_succ])
        first | (refine take_on (i := 8) (v := ?_) rfl (by kernel_rfl) (by kernel_rfl) (by kernel_rfl) (fun _ _ _ h => h) rfl ?_ (by assumption) ?_; rotate_left; · (intro w' hSw; (try dsimp only at hSw); go_simp; (try with_reducible rfl))) | (refine take_off (i := 8) rfl (by kernel_rfl) (by kernel_rfl) (by kernel_rfl) (fun _ _ _ h => h) rfl (by assumption) ?_)
        (try simp only [Act.put, List.setIfInBounds_toArray, List.set_cons_zero, List.set_cons_succ])
        first | (refine take_on (i := 9) (v := ?_) rfl (by kernel_rfl) (by kernel_rfl) (by kernel_rfl) (fun _ _ _ h => h) rfl ?_ (by assumption) ?_; rotate_left; · (intro w' hSw; (try dsimp only at hSw); go_simp; (try with_reducible rfl))) | (refine take_off (i := 9) rfl (by kernel_rfl) (by kernel_rfl) (by kernel_rfl) (fun _ _ _ h => h) rfl (by assumption) ?_)
        (try simp only [Act.put, List.setIfInBounds_toArray, List.set_cons_zero, List.set_cons_succ])
        first | (refine take_on (i := 10) (v := ?_) rfl (by kernel_rfl) (by kernel_rfl) (by kernel_rfl) (fun _ _ _ h => h) rfl ?_ (by assumption) ?_; rotate_left; · (intro w' hSw; (try dsimp only at hSw); go_simp; (try with_reducible rfl))) | (refine take_off (i := 10) rfl (by kernel_rfl) (by kernel_rfl) (by kernel_rfl) (fun _ _ _ h => h) rfl (by assumption) ?_)
        (try simp only [Act.put, List.setIfInBounds_toArray, List.set_cons_zero, List.set_cons_succ])
        first | (refine take_on (i := 11) (v := ?_) rfl (by kernel_rfl) (by kernel_rfl) (by kernel_rfl) (fun _ _ _ h => h) rfl ?_ (by assumption) ?_; rotate_left; · (intro w' hSw; (try dsimp only at hSw); go_simp; (try with_reducible rfl))) | (refine take_off (i := 11) rfl (by kernel_rfl) (by kernel_rfl) (by kernel_rfl) (fun _ _ _ h => h) rfl (by assumption) ?_)
        (try simp only [Act.put, List.setIfInBounds_toArray, List.set_cons_zero, List.set_cons_succ])
        first | (refine take_on (i := 12) (v := ?_) rfl (by kernel_rfl) (by kernel_rfl) (by kernel_rfl) (fun _ _ _ h => h) rfl ?_ (by assumption) ?_; rotate_left; · (intro w' hSw; (try dsimp only at hSw); go_simp; (try with_reducible rfl))) | (refine take_off (i := 12) rfl (by kernel_rfl) (by kernel_rfl) (by kernel_rfl) (fun _ _ _ h => h) rfl (by assumption) ?_)
        (try simp only [Act.put, List.setIfInBounds_toArray, List.set_cons_zero, List.set_cons_succ])
        first | (refine take_on (i := 13) (v := ?_) rfl (by kernel_rfl) (by kernel_rfl) (by kernel_rfl) (fun _ _ _ h => h) rfl ?_ (by assumption) ?_; rotate_left; · (intro w' hSw; (try dsimp only at hSw); go_simp; (try with_reducible rfl))) | (refine take_off (i := 13) rfl (by kernel_rfl) (by kernel_rfl) (by kernel_rfl) (fun _ _ _ h => h) rfl (by assumption) ?_)
        (try simp only [Act.put, List.setIfInBounds_toArray, List.set_cons_zero, List.set_cons_succ])
        first | (refine take_on (i := 14) (v := ?_) rfl (by kernel_rfl) (by kernel_rfl) (by kernel_rfl) (fun _ _ _ h => h) rfl ?_ (by assumption) ?_; rotate_left; · (intro w' hSw; (try dsimp only at hSw); go_simp; (try with_reducible rfl))) | (refine take_off (i := 14) rfl (by kernel_rfl) (by kernel_rfl) (by kernel_rfl) (fun _ _ _ h => h) rfl (by assumption) ?_)
        (try simp only [Act.put, List.setIfInBounds_toArray, List.set_cons_zero, List.set_cons_succ])
        refine wpAnyH_ready (rs := [1, 15]) (by kernel_rfl) (by simp) ?_
        refine AllReadyH.cons rfl (fun K hK => ?_) (AllReadyH.cons rfl (fun K hK => ?_) (AllReadyH.nil))
        · rw [if_pos (by rfl)]
          go_simp
          refine hK.out _ _ ?_ (fun hHeld2 => ?_)
          · (try dsimp only); exact hHeld
          clear hK K hHeld; have hHeld := hHeld2; clear hHeld2; (try simp only [Act.put, List.setIfInBounds_toArray, List.set_cons_zero, List.set_cons_succ])
          refine wpAnyH_ready (rs := [15]) (by kernel_rfl) (by simp) ?_
          refine AllReadyH.cons rfl (fun K hK => ?_) AllReadyH.nil
          rw [if_pos (by rfl)]
          go_simp
          refine hK.out _ _ ?_ (fun hHeld2 => ?_)
          · (try dsimp only); exact S2.mk (by go_grown) (by omega)
          clear hK K hHeld; have hHeld := hHeld2; clear hHeld2; (try simp only [Act.put, List.setIfInBounds_toArray, List.set_cons_zero, List.set_cons_succ])
          refine wpAnyH_ready (rs := [16]) (by kernel_rfl) (by simp) ?_
          refine AllReadyH.cons rfl (fun K hK => ?_) AllReadyH.nil
          refine step_push elem_pt (by rfl) (.tmp 34) (.tmp 48) 36 (by rfl) Tryz.underlying36 (w4.heap.size + 1) u (zipTo X Y Z k) (⟨X[k], Y[k], Z[k]⟩ : Pt) (by rfl) ((show Own ptC 58 3 wr.drew (w4.heap.size + 1) u (zipTo X Y Z k) from HO.out).alloc _) k (zipTo_len _ _ _ _) wr.heap.size 1 (by rfl) (fun i u hu => ((Bk.new wr.drew #[.int .i64 X[k], .int .i64 Y[k], .int .i64 Z[k]] 58).cell i).trans (by simpa [ptC] using hu)) (by unfold maxLen; omega) (by omega) (by simp only [World.size_drew, World.size_alloc]; omega) ?_
          intro g5 cap5 w5 hown5 hgrow5 hat5 hlt5 hkeep5
          have hbk5 : Bk w5 w4.heap.size 38 #[u] := (hgrow5.block _ (by simp only [World.size_drew, World.size_alloc]; omega) (fun e => by have h2 := HI.out _ e.symm; omega)).trans ((show Bk wr.drew w4.heap.size 38 #[u] from HBV.out).alloc _)
          obtain ⟨e5, f5⟩ := bk1 hbk5
          have hz5 := hgrow5.size
          simp only [World.size_drew, World.size_alloc] at hz5
          have hgl5 := hbk5.lt
          refine hK.out _ _ ?_ (fun hHeld2 => ?_)
          · (try dsimp only); exact S2.push hHeld hgrow5 (fun k hk => by have h2 := HI.out k hk; omega) (by simp only [World.size_drew, World.size_alloc]; omega)
          clear hK K hHeld; have hHeld := hHeld2; clear hHeld2; (try simp only [Act.put, List.setIfInBounds_toArray, List.set_cons_zero, List.set_cons_succ])
          first | (refine take_on (i := 17) (v := ?_) rfl (by kernel_rfl) (by kernel_rfl) (by kernel_rfl) (fun _ _ _ h => h) rfl ?_ (by assumption) ?_; rotate_left; · (intro w' hSw; (try dsimp only at hSw); go_simp; (try with_reducible rfl))) | (refine take_off (i := 17) rfl (by kernel_rfl) (by kernel_rfl) (by kernel_rfl) (fun _ _ _ h => h) rfl (by assumption) ?_)
          (try simp only [Act.put, List.setIfInBounds_toArray, List.set_cons_zero, List.set_cons_succ])
          refine wpAnyH_ready (rs := [18]) (by kernel_rfl) (by simp) ?_
          refine AllReadyH.cons rfl (fun K hK => ?_) AllReadyH.nil
          rw [if_pos (by rfl)]
          go_simp
          refine hK.out _ _ ?_ (fun hHeld2 => ?_)
          · (try dsimp only); exact S2.store hHeld _
          clear hK K hHeld; have hHeld := hHeld2; clear hHeld2; (try simp only [Act.put, List.setIfInBounds_toArray, List.set_cons_zero, List.set_cons_succ])
          refine wpAnyH_done (by kernel_rfl) ?_ _
          have hS := hHeld.2.2
          clear hHeld
          go_wp2_with fail
          go_roundw
          case rel =>
            refine ⟨k + 1, _, by omega, by go_num, bk1_put hbk5, ?_, hB.trans hS⟩
            rw [HNX.out]
            exact hown5.setCell _ _ (fun k hk => by have h1 := hown5.lt k hk; simp only [ne_eq]; omega)
          case measure => (simp [intOf]; try omega)
        · rw [if_pos (by rfl)]
          go_simp
          refine hK.out _ _ ?_ (fun hHeld2 => ?_)
          · (try dsimp only); exact S2.mk (by go_grown) (by omega)
          clear hK K hHeld; have hHeld := hHeld2; clear hHeld2; (try simp only [Act.put, List.setIfInBounds_toArray, List.set_cons_zero, List.set_cons_succ])
          refine wpAnyH_ready (rs := [1]) (by kernel_rfl) (by simp) ?_
          refine AllReadyH.cons rfl (fun K hK => ?_) AllReadyH.nil
          rw [if_pos (by rfl)]
          go_simp
          refine hK.out _ _ ?_ (fun hHeld2 => ?_)
          · (try dsimp only); exact hHeld
          clear hK K hHeld; have hHeld := hHeld2; clear hHeld2; (try simp only [Act.put, List.setIfInBounds_toArray, List.set_cons_zero, List.set_cons_succ])
          refine wpAnyH_ready (rs := [16]) (by kernel_rfl) (by simp) ?_
          refine AllReadyH.cons rfl (fun K hK => ?_) AllReadyH.nil
          refine step_push elem_pt (by rfl) (.tmp 34) (.tmp 48) 36 (by rfl) Tryz.underlying36 (w4.heap.size + 1) u (zipTo X Y Z k) (⟨X[k], Y[k], Z[k]⟩ : Pt) (by rfl) ((show Own ptC 58 3 wr.drew (w4.heap.size + 1) u (zipTo X Y Z k) from HO.out).alloc _) k (zipTo_len _ _ _ _) wr.heap.size 1 (by rfl) (fun i u hu => ((Bk.new wr.drew #[.int .i64 X[k], .int .i64 Y[k], .int .i64 Z[k]] 58).cell i).trans (by simpa [ptC] using hu)) (by unfold maxLen; omega) (by omega) (by simp only [World.size_drew, World.size_alloc]; omega) ?_
          intro g5 cap5 w5 hown5 hgrow5 hat5 hlt5 hkeep5
          have hbk5 : Bk w5 w4.heap.size 38 #[u] := (hgrow5.block _ (by simp only [World.size_drew, World.size_alloc]; omega) (fun e => by have h2 := HI.out _ e.symm; omega)).trans ((show Bk wr.drew w4.heap.size 38 #[u] from HBV.out).alloc _)
          obtain ⟨e5, f5⟩ := bk1 hbk5
          have hz5 := hgrow5.size
          simp only [World.size_drew, World.size_alloc] at hz5
          have hgl5 := hbk5.lt
          refine hK.out _ _ ?_ (fun hHeld2 => ?_)
          · (try dsimp only); exact S2.push hHeld hgrow5 (fun k hk => by have h2 := HI.out k hk; omega) (by simp only [World.size_drew, World.size_alloc]; omega)
          clear hK K hHeld; have hHeld := hHeld2; clear hHeld2; (try simp only [Act.put, List.setIfInBounds_toArray, List.set_cons_zero, List.set_cons_succ])
          first | (refine take_on (i := 17) (v := ?_) rfl (by kernel_rfl) (by kernel_rfl) (by kernel_rfl) (fun _ _ _ h => h) rfl ?_ (by assumption) ?_; rotate_left; · (intro w' hSw; (try dsimp only at hSw); go_simp; (try with_reducible rfl))) | (refine take_off (i := 17) rfl (by kernel_rfl) (by kernel_rfl) (by kernel_rfl) (fun _ _ _ h => h) rfl (by assumption) ?_)
          (try simp only [Act.put, List.setIfInBounds_toArray, List.set_cons_zero, List.set_cons_succ])
          refine wpAnyH_ready (rs := [18]) (by kernel_rfl) (by simp) ?_
          refine AllReadyH.cons rfl (fun K hK => ?_) AllReadyH.nil
          rw [if_pos (by rfl)]
          go_simp
          refine hK.out _ _ ?_ (fun hHeld2 => ?_)
          · (try dsimp only); exact S2.store hHeld _
          clear hK K hHeld; have hHeld := hHeld2; clear hHeld2; (try simp only [Act.put, List.setIfInBounds_toArray, List.set_cons_zero, List.set_cons_succ])
          refine wpAnyH_done (by kernel_rfl) ?_ _
          have hS := hHeld.2.2
          clear hHeld
          go_wp2_with fail
          go_roundw
          case rel =>
            refine ⟨k + 1, _, by omega, by go_num, bk1_put hbk5, ?_, hB.trans hS⟩
            rw [HNX.out]
            exact hown5.setCell _ _ (fun k hk => by have h1 := hown5.lt k hk; simp only [ne_eq]; omega)
          case measure => (simp [intOf]; try omega)

      · obtain rfl : k = v := by omega
        obtain ⟨A5, c5, hu, _, _, _⟩ := HO.out.rd
        rw [zipTo_len] at hu
        subst hu
        have hrw := HR4.out.next hB0
        obtain ⟨r0, fr0⟩ := bk1 hrw
        have hltw2 := hrw.lt
        go_wp2_with fail
        refine bodyPost_ret (by simp [results, Tryz.results12, go_sem, *]; try rfl) rfl ?_
        exact ⟨A5, c5, k, zipTo X Y Z k, p4, false, rfl, zipTo_len _ _ _ _, by omega, (HO.out.setCell _ _ (fun j hj => by have h1 := HI.out j hj; simp only [ne_eq]; omega)).mono (by omega), hbkr.other (by simp only [ne_eq]; omega) _, hp4, (HA4.out.then hB0 (by omega)).other _ _ (Nat.le_refl _), .inl ⟨rfl, rfl, HY.out⟩⟩
  · have HBAD := Lib.hid (sk_bad HG1.out HG2.out HG3.out HG4.out)
    clear HG1 HG2 HG3 HG4
    have HI0 : Hid (Bk (w4.alloc (.cells #[.slice none 0 0] 38)) w4.heap.size 38 #[.slice none 0 0]) := Bk.new w4 _ _
    go_wp2_with fail
    clear c0 f0 c1 f1 c20 f20 r0 fr0
    go_loopw [8] (fun i wr => i = .int .i64 0 ∧ Hid (wr = (w4.alloc (.cells #[.slice none 0 0] 38)))) (fun i _ => (intOf i).toNat)
    case atStart => exact ⟨rfl, rfl⟩
    case round =>
      obtain ⟨rfl, hw⟩ := hrel
      have hwr : wr = (w4.alloc (.cells #[.slice none 0 0] 38)) := hw.out
      have hbkr : Bk wr b 34 #[.string s, .int .i64 (p4 : Int), .bool true] := by rw [hwr]; exact HB4.out.alloc _
      have hbv : Bk wr w4.heap.size 38 #[.slice none 0 0] := by rw [hwr]; exact HI0.out
      have hrw : Bk wr w.heap.size 38 #[.slice none 0 0] := by rw [hwr]; exact HR4.out.alloc _
      have hAw : Hid (Apart b w.heap.size w wr) := by rw [hwr]; exact HA4.out.then ((Below.refl _ _).alloc (Nat.le_refl _) _) (by omega)
      have hBs : w4.heap.size < wr.heap.size := by rw [hwr]; simp
      clear hwr
      obtain ⟨⟨d0, k0⟩, ⟨d1, k1⟩, d2, k2⟩ := bk3 hbkr
      obtain ⟨e0, fe0⟩ := bk1 hbv
      obtain ⟨r0, fr0⟩ := bk1 hrw
      have hltr := hbkr.lt
      by_cases hv0 : 0 < v
      · have hvi : (0 : Int) < (v : Int) := by omega
        go_wp2_with fail
        refine bodyPost_ret (by simp [results, Tryz.results12, go_sem, *]; try rfl) rfl ?_
        exact ⟨none, 0, 0, [], p4, true, rfl, rfl, by omega, Own.nil _ _ _ _ _, hbkr.other (by simp only [ne_eq]; omega) _, hp4, hAw.out.other _ _ (Nat.le_refl _), .inr ⟨rfl, HBAD.out⟩⟩
      · have hvi : decide ((0 : Int) < (v : Int)) = false := decide_eq_false (by omega)
        obtain rfl : v = 0 := by omega
        go_wp2_with fail
        refine bodyPost_ret (by simp [results, Tryz.results12, go_sem, *]; try rfl) rfl ?_
        exact ⟨none, 0, 0, [], p4, true, rfl, rfl, by omega, Own.nil _ _ _ _ _, hbkr.other (by simp only [ne_eq]; omega) _, hp4, hAw.out.other _ _ (Nat.le_refl _), .inr ⟨rfl, HBAD.out⟩⟩
end Go.Proofs.YtinlhigpmchiaaaGreatDoor
