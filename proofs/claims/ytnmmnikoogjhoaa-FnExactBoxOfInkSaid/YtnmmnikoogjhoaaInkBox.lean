/-
  The box of an ink: program and reference find the same.
-/
import Derived.Test.YtnmmnikoogjhoaaInkCount
namespace Go.Proofs.Ytnmmnikoogjhoaa
set_option linter.unusedSimpArgs false
set_option linter.unusedVariables false
set_option maxRecDepth 20000
open Go.RowKit
open Go.ChangeShapes Go.WideShapes Go.Deep Go.Joins

def bxP (l : List Pt) : Bx := boxTo l l.length
def ibTo (P : List (List Pt)) : Nat → Bx
  | 0 => bxP (P.getD 0 [])
  | k + 1 => joinB (ibTo P k) (bxP (P.getD k []))
theorem ibTo_one (P : List (List Pt)) : ibTo P 1 = ibTo P 0 := by simp [ibTo, joinB, minI, maxI]
theorem ptsOf_getD {S : List St} {k : Nat} (h : k < S.length) : (ptsOf S).getD k [] = S[k].l := by simp [ptsOf, List.getD_eq_getElem?_getD, List.getElem?_eq_getElem h]
theorem ibTo_next {S : List St} {P : List (List Pt)} (hP : ptsOf S = P) {k : Nat} (h : k < S.length) : ibTo P (k + 1) = joinB (ibTo P k) (boxTo S[k].l S[k].l.length) := by
  subst hP
  rw [ibTo, ptsOf_getD h]; rfl
theorem ibTo_zero {S : List St} {P : List (List Pt)} (hP : ptsOf S = P) (h : 0 < S.length) : ibTo P 0 = boxTo S[0].l S[0].l.length := by
  subst hP
  rw [ibTo, ptsOf_getD h]; rfl
def ibRn (P : List (List Pt)) (n : Nat) : Bx × Int := if inkB P = true then (if n = 0 then (⟨0, 0, 0, 0⟩, 6) else (ibTo P n, 0)) else (⟨0, 0, 0, 0⟩, 1)
def ibR (P : List (List Pt)) : Bx × Int := ibRn P P.length
theorem ibR_eq {S : List St} {n : Nat} (h : S.length = n) : ibR (ptsOf S) = ibRn (ptsOf S) n := by unfold ibR; rw [ptsOf_len, h]
theorem ibR_no {P : List (List Pt)} {n : Nat} (h : inkB P = false) : ibRn P n = (⟨0, 0, 0, 0⟩, 1) := by unfold ibRn; rw [h]; rfl
theorem ibR_nil {P : List (List Pt)} (h : inkB P = true) : ibRn P 0 = (⟨0, 0, 0, 0⟩, 6) := by unfold ibRn; rw [h]; rfl
theorem ibR_some {P : List (List Pt)} {n : Nat} (h : inkB P = true) (hn : ¬ n = 0) : ibRn P n = (ibTo P n, 0) := by unfold ibRn; rw [h, if_pos rfl, if_neg hn]
theorem S5.mk {W0 w' : World} {B : Nat} (h : Below W0.heap.size W0 w') (hB : B ≤ W0.heap.size) :
    (∀ kb ko, kb < W0.heap.size → ¬ kb = B → w'.cell? ⟨kb, ko, none⟩ = W0.cell? ⟨kb, ko, none⟩) ∧ W0.heap.size ≤ w'.heap.size ∧ Below B W0 w' :=
  ⟨fun kb ko hk _ => h.cell (p := ⟨kb, ko, none⟩) hk, h.size, h.mono hB⟩
theorem S5.store {W0 w : World} {B : Nat} (h : (∀ kb ko, kb < W0.heap.size → ¬ kb = B → w.cell? ⟨kb, ko, none⟩ = W0.cell? ⟨kb, ko, none⟩) ∧ W0.heap.size ≤ w.heap.size ∧ Below B W0 w) (o : Nat) (u : Value) :
    (∀ kb ko, kb < W0.heap.size → ¬ kb = B → (w.setCell ⟨B, o, none⟩ u).cell? ⟨kb, ko, none⟩ = W0.cell? ⟨kb, ko, none⟩) ∧ W0.heap.size ≤ (w.setCell ⟨B, o, none⟩ u).heap.size ∧ Below B W0 (w.setCell ⟨B, o, none⟩ u) :=
  ⟨fun kb ko h1 h2 => (World.cell?_of_block (Below.heap_setCell w ⟨B, o, none⟩ u kb h2)).trans (h.1 kb ko h1 h2), by simpa [World.setCell] using h.2.1, h.2.2.setCell (Nat.le_refl _) u⟩
theorem S5.store4 {W0 w : World} {B : Nat} (h : Below W0.heap.size W0 w) (hB : B ≤ W0.heap.size) (u0 u1 u2 u3 : Value) :
    (∀ kb ko, kb < W0.heap.size → ¬ kb = B → ((((w.setCell ⟨B, 0, none⟩ u0).setCell ⟨B, 1, none⟩ u1).setCell ⟨B, 2, none⟩ u2).setCell ⟨B, 3, none⟩ u3).cell? ⟨kb, ko, none⟩ = W0.cell? ⟨kb, ko, none⟩) ∧ W0.heap.size ≤ ((((w.setCell ⟨B, 0, none⟩ u0).setCell ⟨B, 1, none⟩ u1).setCell ⟨B, 2, none⟩ u2).setCell ⟨B, 3, none⟩ u3).heap.size ∧ Below B W0 ((((w.setCell ⟨B, 0, none⟩ u0).setCell ⟨B, 1, none⟩ u1).setCell ⟨B, 2, none⟩ u2).setCell ⟨B, 3, none⟩ u3) :=
  S5.store (S5.store (S5.store (S5.store (S5.mk h hB) 0 u0) 1 u1) 2 u2) 3 u3

set_option maxHeartbeats 8000000 in
theorem boxOfInk_any (A : Option Addr) (n c : Nat) (S : List St) (P : List (List Pt)) (w : World) (h : InkRd w A n S) (hP : ptsOf S = P) (hstr : ∀ (k : Nat) (hk : k < S.length), strB S[k].l = true) (h0 : 0 < S.length) (hn : n ≤ 16) :
    Calls Try.prog 53 #[.agg #[.slice A n c]] w fun e w' => e = .returned (.agg #[.int .i64 (ibTo P n).x1, .int .i64 (ibTo P n).y1, .int .i64 (ibTo P n).x2, .int .i64 (ibTo P n).y2]) ∧ Below w.heap.size w w' := by
  have HA := Lib.hid h
  have LA := Lib.hid h.len
  have hnx : ∀ (k : Nat) (hk : k < S.length), Hid (ibTo P (k + 1) = joinB (ibTo P k) (boxTo S[k].l S[k].l.length)) := fun k hk => ibTo_next hP hk
  have e0 : Hid (ibTo P 0 = boxTo S[0].l S[0].l.length) := ibTo_zero hP h0
  have e1 : Hid (ibTo P 1 = boxTo S[0].l S[0].l.length) := by rw [Hid, ibTo_one, e0.out]
  obtain ⟨b1, o1, rfl, l1, c1, p1⟩ := h.at h0
  simp only [Nat.add_zero] at c1
  obtain ⟨hp0, hq0, _, _⟩ := strB_true (hstr 0 h0)
  have hn0 : 0 < n := by have := LA.out; omega
  have P1 := Lib.hid p1
  have LP := Lib.hid hP
  clear p1 h hP
  go_enter Try.func53, Try.ntmps53
  go_wp2_with fail
  refine (boxOfStroke_any S[0].A S[0].l.length S[0].c S[0].l _ ((P1.out.alloc _).alloc _) rfl hp0 (by omega)).mono ?_
  rintro e w2 ⟨rfl, hb⟩
  have hz := hb.size
  simp only [World.size_alloc] at hz
  have hT : Below w.heap.size w w2 := Below.next (by go_grown) hb
  have hws : w.heap.size < w2.heap.size := by omega
  have hws1 : w.heap.size + 1 < w2.heap.size := by omega
  have hcs : w2.cell? ⟨w.heap.size, 0, none⟩ = some (.slice (some ⟨b1, o1, none⟩) n c) := (hb.cell (p := ⟨w.heap.size, 0, none⟩) (by simp; omega)).trans (by go_simp)
  have ho : Bk w2 (w.heap.size + 1) 37 #[.int .i64 0, .int .i64 0, .int .i64 0, .int .i64 0] := (Bk.new1 w (.cells #[.slice (some ⟨b1, o1, none⟩) n c] 29) _ _).below hb (by simp)
  clear c1
  go_wp2_with fail
  go_loopw [14] (fun i wr => ∃ k : Nat, k ≤ n ∧ i = .int .i64 (k : Int) ∧ Bk wr w2.heap.size 37 #[.int .i64 (ibTo P k).x1, .int .i64 (ibTo P k).y1, .int .i64 (ibTo P k).x2, .int .i64 (ibTo P k).y2] ∧ Below w2.heap.size w2 wr) (fun i _ => n - (intOf i).toNat)
  case atStart => exact ⟨0, Nat.zero_le _, rfl, by rw [e0.out]; exact Bk.new _ _ _, by go_grown⟩
  case round =>
    obtain ⟨k, hk, rfl, hbk, hB⟩ := hrel
    have hcr : wr.cell? ⟨w.heap.size, 0, none⟩ = some (.slice (some ⟨b1, o1, none⟩) n c) := (hB.cell (p := ⟨w.heap.size, 0, none⟩) hws).trans hcs
    have hBs := hB.size
    have hgl := hbk.lt
    have hwr : w.heap.size < wr.heap.size := by omega
    have hW := Below.next hT hB
    obtain ⟨⟨g0, g1, g2, g3⟩, f0, f1, f2, f3⟩ := bk4 hbk
    by_cases hlt : k < n
    · have ka : k < S.length := by have := LA.out; omega
      obtain ⟨_, _, ee, l2, a1, p2⟩ := (HA.out.below hW).at ka
      cases ee
      obtain ⟨hpk, hqk, _, _⟩ := strB_true (hstr k ka)
      have P2 := Lib.hid (p2.alloc (.cells #[.slice S[k].A S[k].l.length S[k].c] 52))
      have hbkA : Bk (wr.alloc (.cells #[.slice S[k].A S[k].l.length S[k].c] 52)) w2.heap.size 37 #[.int .i64 (ibTo P k).x1, .int .i64 (ibTo P k).y1, .int .i64 (ibTo P k).x2, .int .i64 (ibTo P k).y2] := hbk.below (((Below.refl wr.heap.size wr).alloc (Nat.le_refl _) _)) hgl
      have hBle : w2.heap.size ≤ (wr.alloc (.cells #[.slice S[k].A S[k].l.length S[k].c] 52)).heap.size := by (try simp only [World.size_alloc]); omega
      have hBlt : w2.heap.size < (wr.alloc (.cells #[.slice S[k].A S[k].l.length S[k].c] 52)).heap.size := by (try simp only [World.size_alloc]); omega
      have hne1 : ¬ wr.heap.size = w2.heap.size := by omega
      have hne2 : ¬ w.heap.size = w2.heap.size := by omega
      have hne3 : ¬ b1 = w2.heap.size := by omega
      have hnk := hnx k ka
      have hk0 : (0 : Int) ≤ (k : Int) := by omega
      have hkn : (k : Int) < (n : Int) := by omega
      clear p2
      go_wp2_with fail
      refine wp_region_held_drew (S := (fun w' => (∀ kb ko, kb < (wr.alloc (.cells #[.slice S[k].A S[k].l.length S[k].c] 52)).heap.size → ¬ kb = w2.heap.size → w'.cell? ⟨kb, ko, none⟩ = (wr.alloc (.cells #[.slice S[k].A S[k].l.length S[k].c] 52)).cell? ⟨kb, ko, none⟩) ∧ (wr.alloc (.cells #[.slice S[k].A S[k].l.length S[k].c] 52)).heap.size ≤ w'.heap.size ∧ Below w2.heap.size (wr.alloc (.cells #[.slice S[k].A S[k].l.length S[k].c] 52)) w')) (by kernel_rfl) ?_ (fun hHeld => ?_)
      · (try dsimp only); (first | exact S5.mk hkB hBle | exact S5.mk (Below.refl _ _) hBle | exact S5.mk ((Below.refl _ _).drew) hBle | exact S5.mk (hkB.drew) hBle | exact S5.store4 hkB hBle _ _ _ _)
      first | (refine take_on (i := 1) (v := ?_) rfl (by kernel_rfl) (by kernel_rfl) (by kernel_rfl) (fun _ _ _ h => h) rfl ?_ (by assumption) ?_; rotate_left; · (intro w' hSw; (try dsimp only at hSw); go_simp; (try with_reducible rfl))) | (refine take_off (i := 1) rfl (by kernel_rfl) (by kernel_rfl) (by kernel_rfl) (fun _ _ _ h => h) rfl (by assumption) ?_)
      (try simp only [Act.put, List.setIfInBounds_toArray, List.set_cons_zero, List.set_cons_succ])
      refine wpAnyH_ready (rs := [0, 2]) (by kernel_rfl) (by simp) ?_
      refine AllReadyH.cons rfl (fun K hK => ?_) (AllReadyH.cons rfl (fun K hK => ?_) (AllReadyH.nil))
      · rw [if_pos (by rfl)]
        go_simp
        refine hK.out _ _ ?_ (fun hHeld2 => ?_)
        · (try dsimp only); (first | exact S5.mk hkB hBle | exact S5.mk (Below.refl _ _) hBle | exact S5.mk ((Below.refl _ _).drew) hBle | exact S5.mk (hkB.drew) hBle | exact S5.store4 hkB hBle _ _ _ _)
        clear hK K hHeld; have hHeld := hHeld2; clear hHeld2; (try simp only [Act.put, List.setIfInBounds_toArray, List.set_cons_zero, List.set_cons_succ])
        refine wpAnyH_ready (rs := [2]) (by kernel_rfl) (by simp) ?_
        refine AllReadyH.cons rfl (fun K hK => ?_) AllReadyH.nil
        rw [if_pos (by rfl)]
        go_simp
        go_at_call 84
        (with_reducible refine (boxOfStroke_any S[k].A S[k].l.length S[k].c S[k].l _ (by first | exact P2.out | exact P2.out.drew) rfl (by omega) (by omega)).mono ?_)
        rintro e w' ⟨rfl, hb⟩
        have hkB : Below (wr.alloc (.cells #[.slice S[k].A S[k].l.length S[k].c] 52)).heap.size (wr.alloc (.cells #[.slice S[k].A S[k].l.length S[k].c] 52)) w' := Below.next (by go_grown) hb
        have hbk4 := hbkA.below hkB hBlt
        obtain ⟨⟨i0, i1, i2, i3⟩, j0, j1, j2, j3⟩ := bk4 hbk4
        have hkz := hkB.size
        clear hb
        refine hK.out _ _ ?_ (fun hHeld2 => ?_)
        · (try dsimp only); (first | exact S5.mk hkB hBle | exact S5.mk (Below.refl _ _) hBle | exact S5.mk ((Below.refl _ _).drew) hBle | exact S5.mk (hkB.drew) hBle | exact S5.store4 hkB hBle _ _ _ _)
        clear hK K hHeld; have hHeld := hHeld2; clear hHeld2; (try simp only [Act.put, List.setIfInBounds_toArray, List.set_cons_zero, List.set_cons_succ])
        refine wpAnyH_ready (rs := [3]) (by kernel_rfl) (by simp) ?_
        refine AllReadyH.cons rfl (fun K hK => ?_) AllReadyH.nil
        rw [if_pos (by rfl)]
        go_simp
        go_at_call 85
        (with_reducible refine (joinBoxes_any (ibTo P k) (boxTo S[k].l S[k].l.length) _).mono ?_)
        rintro e w' ⟨rfl, hb⟩
        have hkB : Below (wr.alloc (.cells #[.slice S[k].A S[k].l.length S[k].c] 52)).heap.size (wr.alloc (.cells #[.slice S[k].A S[k].l.length S[k].c] 52)) w' := Below.next hkB hb
        have hbk4 := hbkA.below hkB hBlt
        obtain ⟨⟨i0, i1, i2, i3⟩, j0, j1, j2, j3⟩ := bk4 hbk4
        have hkz := hkB.size
        clear hb
        refine hK.out _ _ ?_ (fun hHeld2 => ?_)
        · (try dsimp only); (first | exact S5.mk hkB hBle | exact S5.mk (Below.refl _ _) hBle | exact S5.mk ((Below.refl _ _).drew) hBle | exact S5.mk (hkB.drew) hBle | exact S5.store4 hkB hBle _ _ _ _)
        clear hK K hHeld; have hHeld := hHeld2; clear hHeld2; (try simp only [Act.put, List.setIfInBounds_toArray, List.set_cons_zero, List.set_cons_succ])
        refine wpAnyH_ready (rs := [4]) (by kernel_rfl) (by simp) ?_
        refine AllReadyH.cons rfl (fun K hK => ?_) AllReadyH.nil
        rw [if_pos (by rfl)]
        go_simp
        refine hK.out _ _ ?_ (fun hHeld2 => ?_)
        · (try dsimp only); (first | exact S5.mk hkB hBle | exact S5.mk (Below.refl _ _) hBle | exact S5.mk ((Below.refl _ _).drew) hBle | exact S5.mk (hkB.drew) hBle | exact S5.store4 hkB hBle _ _ _ _)
        clear hK K hHeld; have hHeld := hHeld2; clear hHeld2; (try simp only [Act.put, List.setIfInBounds_toArray, List.set_cons_zero, List.set_cons_succ])
        refine wpAnyH_done (by kernel_rfl) ?_ _
        (try go_split_ands)
        have hB5 : Below w2.heap.size w2 _ := hB.trans ((Below.next (by go_grown) hkB).mono hBs)
        go_wp2_with fail
        go_roundw
        case rel =>
          refine ⟨k + 1, by omega, by go_num, ?_, ?_⟩
          · rw [hnk.out]; exact bk4_put hbk4
          · go_grown
        case measure => simp [intOf]; omega
      · rw [if_pos (by rfl)]
        go_simp
        go_at_call 84
        (with_reducible refine (boxOfStroke_any S[k].A S[k].l.length S[k].c S[k].l _ (by first | exact P2.out | exact P2.out.drew) rfl (by omega) (by omega)).mono ?_)
        rintro e w' ⟨rfl, hb⟩
        have hkB : Below (wr.alloc (.cells #[.slice S[k].A S[k].l.length S[k].c] 52)).heap.size (wr.alloc (.cells #[.slice S[k].A S[k].l.length S[k].c] 52)) w' := Below.next (by go_grown) hb
        have hbk4 := hbkA.below hkB hBlt
        obtain ⟨⟨i0, i1, i2, i3⟩, j0, j1, j2, j3⟩ := bk4 hbk4
        have hkz := hkB.size
        clear hb
        refine hK.out _ _ ?_ (fun hHeld2 => ?_)
        · (try dsimp only); (first | exact S5.mk hkB hBle | exact S5.mk (Below.refl _ _) hBle | exact S5.mk ((Below.refl _ _).drew) hBle | exact S5.mk (hkB.drew) hBle | exact S5.store4 hkB hBle _ _ _ _)
        clear hK K hHeld; have hHeld := hHeld2; clear hHeld2; (try simp only [Act.put, List.setIfInBounds_toArray, List.set_cons_zero, List.set_cons_succ])
        refine wpAnyH_ready (rs := [0]) (by kernel_rfl) (by simp) ?_
        refine AllReadyH.cons rfl (fun K hK => ?_) AllReadyH.nil
        rw [if_pos (by rfl)]
        go_simp
        refine hK.out _ _ ?_ (fun hHeld2 => ?_)
        · (try dsimp only); (first | exact S5.mk hkB hBle | exact S5.mk (Below.refl _ _) hBle | exact S5.mk ((Below.refl _ _).drew) hBle | exact S5.mk (hkB.drew) hBle | exact S5.store4 hkB hBle _ _ _ _)
        clear hK K hHeld; have hHeld := hHeld2; clear hHeld2; (try simp only [Act.put, List.setIfInBounds_toArray, List.set_cons_zero, List.set_cons_succ])
        refine wpAnyH_ready (rs := [3]) (by kernel_rfl) (by simp) ?_
        refine AllReadyH.cons rfl (fun K hK => ?_) AllReadyH.nil
        rw [if_pos (by rfl)]
        go_simp
        go_at_call 85
        (with_reducible refine (joinBoxes_any (ibTo P k) (boxTo S[k].l S[k].l.length) _).mono ?_)
        rintro e w' ⟨rfl, hb⟩
        have hkB : Below (wr.alloc (.cells #[.slice S[k].A S[k].l.length S[k].c] 52)).heap.size (wr.alloc (.cells #[.slice S[k].A S[k].l.length S[k].c] 52)) w' := Below.next hkB hb
        have hbk4 := hbkA.below hkB hBlt
        obtain ⟨⟨i0, i1, i2, i3⟩, j0, j1, j2, j3⟩ := bk4 hbk4
        have hkz := hkB.size
        clear hb
        refine hK.out _ _ ?_ (fun hHeld2 => ?_)
        · (try dsimp only); (first | exact S5.mk hkB hBle | exact S5.mk (Below.refl _ _) hBle | exact S5.mk ((Below.refl _ _).drew) hBle | exact S5.mk (hkB.drew) hBle | exact S5.store4 hkB hBle _ _ _ _)
        clear hK K hHeld; have hHeld := hHeld2; clear hHeld2; (try simp only [Act.put, List.setIfInBounds_toArray, List.set_cons_zero, List.set_cons_succ])
        refine wpAnyH_ready (rs := [4]) (by kernel_rfl) (by simp) ?_
        refine AllReadyH.cons rfl (fun K hK => ?_) AllReadyH.nil
        rw [if_pos (by rfl)]
        go_simp
        refine hK.out _ _ ?_ (fun hHeld2 => ?_)
        · (try dsimp only); (first | exact S5.mk hkB hBle | exact S5.mk (Below.refl _ _) hBle | exact S5.mk ((Below.refl _ _).drew) hBle | exact S5.mk (hkB.drew) hBle | exact S5.store4 hkB hBle _ _ _ _)
        clear hK K hHeld; have hHeld := hHeld2; clear hHeld2; (try simp only [Act.put, List.setIfInBounds_toArray, List.set_cons_zero, List.set_cons_succ])
        refine wpAnyH_done (by kernel_rfl) ?_ _
        (try go_split_ands)
        have hB5 : Below w2.heap.size w2 _ := hB.trans ((Below.next (by go_grown) hkB).mono hBs)
        go_wp2_with fail
        go_roundw
        case rel =>
          refine ⟨k + 1, by omega, by go_num, ?_, ?_⟩
          · rw [hnk.out]; exact bk4_put hbk4
          · go_grown
        case measure => simp [intOf]; omega
    · obtain rfl : k = n := by omega
      have hor : Bk wr (w.heap.size + 1) 37 #[.int .i64 0, .int .i64 0, .int .i64 0, .int .i64 0] := ho.below hB hws1
      obtain ⟨⟨m0, m1, m2, m3⟩, q0, q1, q2, q3⟩ := bk4 hor
      have hwr1 : (w.heap.size + 1) < wr.heap.size := by omega
      go_wp2_with fail
      refine bodyPost_ret (by simp [results, Try.results53, go_sem, *]; try rfl) rfl ?_
      exact ⟨rfl, by go_grown⟩

set_option maxHeartbeats 8000000 in
theorem l02All_any (b o : Nat) (A : Option Addr) (n c : Nat) (S : List St) (P : List (List Pt)) (w : World) (hcell : w.cell? ⟨b, o, none⟩ = some (.slice A n c)) (h : InkRd w A n S) (hP : ptsOf S = P) (hstr : ∀ (k : Nat) (hk : k < S.length), strB S[k].l = true) (h0 : 0 < S.length) (hn : n ≤ 16) :
    Calls Try.prog 52 #[.pointer (some ⟨b, o, none⟩)] w fun e w' => e = .returned (.agg #[.int .i64 (ibTo P n).x1, .int .i64 (ibTo P n).y1, .int .i64 (ibTo P n).x2, .int .i64 (ibTo P n).y2]) ∧ Below w.heap.size w w' := by
  have HA := Lib.hid h
  have LA := Lib.hid h.len
  have hnx : ∀ (k : Nat) (hk : k < S.length), Hid (ibTo P (k + 1) = joinB (ibTo P k) (boxTo S[k].l S[k].l.length)) := fun k hk => ibTo_next hP hk
  have e0 : Hid (ibTo P 0 = boxTo S[0].l S[0].l.length) := ibTo_zero hP h0
  have e1 : Hid (ibTo P 1 = boxTo S[0].l S[0].l.length) := by rw [Hid, ibTo_one, e0.out]
  obtain ⟨b1, o1, rfl, l1, c1, p1⟩ := h.at h0
  simp only [Nat.add_zero] at c1
  obtain ⟨hp0, hq0, _, _⟩ := strB_true (hstr 0 h0)
  have hn0 : 0 < n := by have := LA.out; omega
  have P1 := Lib.hid p1
  have LP := Lib.hid hP
  have hb0 : b < w.heap.size := block_lt_of_cell hcell
  clear p1 h hP
  go_enter Try.func52, Try.ntmps52
  go_wp2_with fail
  refine (l02BoxOf_at b1 o1 S[0].A S[0].l.length S[0].c S[0].l _ (((Below.refl _ _).alloc (Nat.le_refl _) _ : Below w.heap.size w _).cell l1 |>.trans c1) (P1.out.alloc _) rfl hp0 (by omega)).mono ?_
  rintro e w2 ⟨rfl, hb⟩
  have hz := hb.size
  simp only [World.size_alloc] at hz
  have hT : Below w.heap.size w w2 := Below.next (by go_grown) hb
  have hws : w.heap.size < w2.heap.size := by omega
  have hws1 : w.heap.size < w2.heap.size := hws
  have hcs : w2.cell? ⟨b, o, none⟩ = some (.slice (some ⟨b1, o1, none⟩) n c) := (hT.cell (p := ⟨b, o, none⟩) hb0).trans hcell
  have hbw2 : b < w2.heap.size := by omega
  have ho : Bk w2 w.heap.size 37 #[.int .i64 0, .int .i64 0, .int .i64 0, .int .i64 0] := (Bk.new w _ _).below hb (by simp)
  clear c1
  go_wp2_with fail
  go_loopw [4] (fun i wr => ∃ k : Nat, 1 ≤ k ∧ k ≤ n ∧ i = .int .i64 (k : Int) ∧ Bk wr w2.heap.size 37 #[.int .i64 (ibTo P k).x1, .int .i64 (ibTo P k).y1, .int .i64 (ibTo P k).x2, .int .i64 (ibTo P k).y2] ∧ Below w2.heap.size w2 wr) (fun i _ => n - (intOf i).toNat)
  case atStart => exact ⟨1, Nat.le_refl _, by omega, rfl, by rw [e1.out]; exact Bk.new _ _ _, by go_grown⟩
  case round =>
    obtain ⟨k, hk1, hk, rfl, hbk, hB⟩ := hrel
    have hcr : wr.cell? ⟨b, o, none⟩ = some (.slice (some ⟨b1, o1, none⟩) n c) := (hB.cell (p := ⟨b, o, none⟩) hbw2).trans hcs
    have hBs := hB.size
    have hgl := hbk.lt
    have hwr : b < wr.heap.size := by omega
    have hW := Below.next hT hB
    obtain ⟨⟨g0, g1, g2, g3⟩, f0, f1, f2, f3⟩ := bk4 hbk
    by_cases hlt : k < n
    · have ka : k < S.length := by have := LA.out; omega
      obtain ⟨_, _, ee, l2, a1, p2⟩ := (HA.out.below hW).at ka
      cases ee
      obtain ⟨hpk, hqk, _, _⟩ := strB_true (hstr k ka)
      have P2 := Lib.hid p2
      have hbkA : Bk wr w2.heap.size 37 #[.int .i64 (ibTo P k).x1, .int .i64 (ibTo P k).y1, .int .i64 (ibTo P k).x2, .int .i64 (ibTo P k).y2] := hbk
      have hBle : w2.heap.size ≤ wr.heap.size := by (try simp only [World.size_alloc]); omega
      have hBlt : w2.heap.size < wr.heap.size := by (try simp only [World.size_alloc]); omega
      have hne1 : ¬ wr.heap.size = w2.heap.size := by omega
      have hne2 : ¬ b = w2.heap.size := by omega
      have hne3 : ¬ b1 = w2.heap.size := by omega
      have hnk := hnx k ka
      have hk0 : (0 : Int) ≤ (k : Int) := by omega
      have hkn : (k : Int) < (n : Int) := by omega
      have a1d : wr.drew.cell? ⟨b1, o1 + k, none⟩ = some (.slice S[k].A S[k].l.length S[k].c) := a1
      clear p2
      go_wp2_with fail
      refine wp_region_held_drew (S := (fun w' => (∀ kb ko, kb < wr.heap.size → ¬ kb = w2.heap.size → w'.cell? ⟨kb, ko, none⟩ = wr.cell? ⟨kb, ko, none⟩) ∧ wr.heap.size ≤ w'.heap.size ∧ Below w2.heap.size wr w')) (by kernel_rfl) ?_ (fun hHeld => ?_)
      · (try dsimp only); (first | exact S5.mk hkB hBle | exact S5.mk (Below.refl _ _) hBle | exact S5.mk ((Below.refl _ _).drew) hBle | exact S5.mk (hkB.drew) hBle | exact S5.store4 hkB hBle _ _ _ _)
      first | (refine take_on (i := 1) (v := ?_) rfl (by kernel_rfl) (by kernel_rfl) (by kernel_rfl) (fun _ _ _ h => h) rfl ?_ (by assumption) ?_; rotate_left; · (intro w' hSw; (try dsimp only at hSw); go_simp; (try with_reducible rfl))) | (refine take_off (i := 1) rfl (by kernel_rfl) (by kernel_rfl) (by kernel_rfl) (fun _ _ _ h => h) rfl (by assumption) ?_)
      (try simp only [Act.put, List.setIfInBounds_toArray, List.set_cons_zero, List.set_cons_succ])
      first | (refine take_on (i := 2) (v := ?_) rfl (by kernel_rfl) (by kernel_rfl) (by kernel_rfl) (fun _ _ _ h => h) rfl ?_ (by assumption) ?_; rotate_left; · (intro w' hSw; (try dsimp only at hSw); go_simp; (try with_reducible rfl))) | (refine take_off (i := 2) rfl (by kernel_rfl) (by kernel_rfl) (by kernel_rfl) (fun _ _ _ h => h) rfl (by assumption) ?_)
      (try simp only [Act.put, List.setIfInBounds_toArray, List.set_cons_zero, List.set_cons_succ])
      first | (refine take_on (i := 3) (v := ?_) rfl (by kernel_rfl) (by kernel_rfl) (by kernel_rfl) (fun _ _ _ h => h) rfl ?_ (by assumption) ?_; rotate_left; · (intro w' hSw; (try dsimp only at hSw); go_simp; (try with_reducible rfl))) | (refine take_off (i := 3) rfl (by kernel_rfl) (by kernel_rfl) (by kernel_rfl) (fun _ _ _ h => h) rfl (by assumption) ?_)
      (try simp only [Act.put, List.setIfInBounds_toArray, List.set_cons_zero, List.set_cons_succ])
      first | (refine take_on (i := 4) (v := ?_) rfl (by kernel_rfl) (by kernel_rfl) (by kernel_rfl) (fun _ _ _ h => h) rfl ?_ (by assumption) ?_; rotate_left; · (intro w' hSw; (try dsimp only at hSw); go_simp; (try with_reducible rfl))) | (refine take_off (i := 4) rfl (by kernel_rfl) (by kernel_rfl) (by kernel_rfl) (fun _ _ _ h => h) rfl (by assumption) ?_)
      (try simp only [Act.put, List.setIfInBounds_toArray, List.set_cons_zero, List.set_cons_succ])
      first | (refine take_on (i := 5) (v := ?_) rfl (by kernel_rfl) (by kernel_rfl) (by kernel_rfl) (fun _ _ _ h => h) rfl ?_ (by assumption) ?_; rotate_left; · (intro w' hSw; (try dsimp only at hSw); go_simp; (try with_reducible rfl))) | (refine take_off (i := 5) rfl (by kernel_rfl) (by kernel_rfl) (by kernel_rfl) (fun _ _ _ h => h) rfl (by assumption) ?_)
      (try simp only [Act.put, List.setIfInBounds_toArray, List.set_cons_zero, List.set_cons_succ])
      first | (refine take_on (i := 6) (v := ?_) rfl (by kernel_rfl) (by kernel_rfl) (by kernel_rfl) (fun _ _ _ h => h) rfl ?_ (by assumption) ?_; rotate_left; · (intro w' hSw; (try dsimp only at hSw); go_simp; (try with_reducible rfl))) | (refine take_off (i := 6) rfl (by kernel_rfl) (by kernel_rfl) (by kernel_rfl) (fun _ _ _ h => h) rfl (by assumption) ?_)
      (try simp only [Act.put, List.setIfInBounds_toArray, List.set_cons_zero, List.set_cons_succ])
      refine wpAnyH_ready (rs := [0, 7]) (by kernel_rfl) (by simp) ?_
      refine AllReadyH.cons rfl (fun K hK => ?_) (AllReadyH.cons rfl (fun K hK => ?_) (AllReadyH.nil))
      · rw [if_pos (by rfl)]
        go_simp
        refine hK.out _ _ ?_ (fun hHeld2 => ?_)
        · (try dsimp only); (first | exact S5.mk hkB hBle | exact S5.mk (Below.refl _ _) hBle | exact S5.mk ((Below.refl _ _).drew) hBle | exact S5.mk (hkB.drew) hBle | exact S5.store4 hkB hBle _ _ _ _)
        clear hK K hHeld; have hHeld := hHeld2; clear hHeld2; (try simp only [Act.put, List.setIfInBounds_toArray, List.set_cons_zero, List.set_cons_succ])
        refine wpAnyH_ready (rs := [7]) (by kernel_rfl) (by simp) ?_
        refine AllReadyH.cons rfl (fun K hK => ?_) AllReadyH.nil
        rw [if_pos (by rfl)]
        go_simp
        go_at_call 82
        (with_reducible refine (l02BoxOf_at _ _ S[k].A S[k].l.length S[k].c S[k].l _ (by first | exact a1 | exact a1d) (by first | exact P2.out | exact P2.out.drew) rfl (by omega) (by omega)).mono ?_)
        rintro e w' ⟨rfl, hb⟩
        have hkB : Below wr.heap.size wr w' := Below.next (by go_grown) hb
        have hbk4 := hbkA.below hkB hBlt
        obtain ⟨⟨i0, i1, i2, i3⟩, j0, j1, j2, j3⟩ := bk4 hbk4
        have hkz := hkB.size
        clear hb
        refine hK.out _ _ ?_ (fun hHeld2 => ?_)
        · (try dsimp only); (first | exact S5.mk hkB hBle | exact S5.mk (Below.refl _ _) hBle | exact S5.mk ((Below.refl _ _).drew) hBle | exact S5.mk (hkB.drew) hBle | exact S5.store4 hkB hBle _ _ _ _)
        clear hK K hHeld; have hHeld := hHeld2; clear hHeld2; (try simp only [Act.put, List.setIfInBounds_toArray, List.set_cons_zero, List.set_cons_succ])
        refine wpAnyH_ready (rs := [8]) (by kernel_rfl) (by simp) ?_
        refine AllReadyH.cons rfl (fun K hK => ?_) AllReadyH.nil
        rw [if_pos (by rfl)]
        go_simp
        go_at_call 83
        (with_reducible refine (l02Join_any (ibTo P k) (boxTo S[k].l S[k].l.length) _).mono ?_)
        rintro e w' ⟨rfl, hb⟩
        have hkB : Below wr.heap.size wr w' := Below.next hkB hb
        have hbk4 := hbkA.below hkB hBlt
        obtain ⟨⟨i0, i1, i2, i3⟩, j0, j1, j2, j3⟩ := bk4 hbk4
        have hkz := hkB.size
        clear hb
        refine hK.out _ _ ?_ (fun hHeld2 => ?_)
        · (try dsimp only); (first | exact S5.mk hkB hBle | exact S5.mk (Below.refl _ _) hBle | exact S5.mk ((Below.refl _ _).drew) hBle | exact S5.mk (hkB.drew) hBle | exact S5.store4 hkB hBle _ _ _ _)
        clear hK K hHeld; have hHeld := hHeld2; clear hHeld2; (try simp only [Act.put, List.setIfInBounds_toArray, List.set_cons_zero, List.set_cons_succ])
        refine wpAnyH_ready (rs := [9]) (by kernel_rfl) (by simp) ?_
        refine AllReadyH.cons rfl (fun K hK => ?_) AllReadyH.nil
        rw [if_pos (by rfl)]
        go_simp
        refine hK.out _ _ ?_ (fun hHeld2 => ?_)
        · (try dsimp only); (first | exact S5.mk hkB hBle | exact S5.mk (Below.refl _ _) hBle | exact S5.mk ((Below.refl _ _).drew) hBle | exact S5.mk (hkB.drew) hBle | exact S5.store4 hkB hBle _ _ _ _)
        clear hK K hHeld; have hHeld := hHeld2; clear hHeld2; (try simp only [Act.put, List.setIfInBounds_toArray, List.set_cons_zero, List.set_cons_succ])
        refine wpAnyH_done (by kernel_rfl) ?_ _
        (try go_split_ands)
        have hB5 : Below w2.heap.size w2 _ := hB.trans ((hkB).mono hBs)
        go_wp2_with fail
        go_roundw
        case rel =>
          refine ⟨k + 1, by omega, by omega, by go_num, ?_, ?_⟩
          · rw [hnk.out]; exact bk4_put hbk4
          · go_grown
        case measure => simp [intOf]; omega
      · rw [if_pos (by rfl)]
        go_simp
        go_at_call 82
        (with_reducible refine (l02BoxOf_at _ _ S[k].A S[k].l.length S[k].c S[k].l _ (by first | exact a1 | exact a1d) (by first | exact P2.out | exact P2.out.drew) rfl (by omega) (by omega)).mono ?_)
        rintro e w' ⟨rfl, hb⟩
        have hkB : Below wr.heap.size wr w' := Below.next (by go_grown) hb
        have hbk4 := hbkA.below hkB hBlt
        obtain ⟨⟨i0, i1, i2, i3⟩, j0, j1, j2, j3⟩ := bk4 hbk4
        have hkz := hkB.size
        clear hb
        refine hK.out _ _ ?_ (fun hHeld2 => ?_)
        · (try dsimp only); (first | exact S5.mk hkB hBle | exact S5.mk (Below.refl _ _) hBle | exact S5.mk ((Below.refl _ _).drew) hBle | exact S5.mk (hkB.drew) hBle | exact S5.store4 hkB hBle _ _ _ _)
        clear hK K hHeld; have hHeld := hHeld2; clear hHeld2; (try simp only [Act.put, List.setIfInBounds_toArray, List.set_cons_zero, List.set_cons_succ])
        refine wpAnyH_ready (rs := [0]) (by kernel_rfl) (by simp) ?_
        refine AllReadyH.cons rfl (fun K hK => ?_) AllReadyH.nil
        rw [if_pos (by rfl)]
        go_simp
        refine hK.out _ _ ?_ (fun hHeld2 => ?_)
        · (try dsimp only); (first | exact S5.mk hkB hBle | exact S5.mk (Below.refl _ _) hBle | exact S5.mk ((Below.refl _ _).drew) hBle | exact S5.mk (hkB.drew) hBle | exact S5.store4 hkB hBle _ _ _ _)
        clear hK K hHeld; have hHeld := hHeld2; clear hHeld2; (try simp only [Act.put, List.setIfInBounds_toArray, List.set_cons_zero, List.set_cons_succ])
        refine wpAnyH_ready (rs := [8]) (by kernel_rfl) (by simp) ?_
        refine AllReadyH.cons rfl (fun K hK => ?_) AllReadyH.nil
        rw [if_pos (by rfl)]
        go_simp
        go_at_call 83
        (with_reducible refine (l02Join_any (ibTo P k) (boxTo S[k].l S[k].l.length) _).mono ?_)
        rintro e w' ⟨rfl, hb⟩
        have hkB : Below wr.heap.size wr w' := Below.next hkB hb
        have hbk4 := hbkA.below hkB hBlt
        obtain ⟨⟨i0, i1, i2, i3⟩, j0, j1, j2, j3⟩ := bk4 hbk4
        have hkz := hkB.size
        clear hb
        refine hK.out _ _ ?_ (fun hHeld2 => ?_)
        · (try dsimp only); (first | exact S5.mk hkB hBle | exact S5.mk (Below.refl _ _) hBle | exact S5.mk ((Below.refl _ _).drew) hBle | exact S5.mk (hkB.drew) hBle | exact S5.store4 hkB hBle _ _ _ _)
        clear hK K hHeld; have hHeld := hHeld2; clear hHeld2; (try simp only [Act.put, List.setIfInBounds_toArray, List.set_cons_zero, List.set_cons_succ])
        refine wpAnyH_ready (rs := [9]) (by kernel_rfl) (by simp) ?_
        refine AllReadyH.cons rfl (fun K hK => ?_) AllReadyH.nil
        rw [if_pos (by rfl)]
        go_simp
        refine hK.out _ _ ?_ (fun hHeld2 => ?_)
        · (try dsimp only); (first | exact S5.mk hkB hBle | exact S5.mk (Below.refl _ _) hBle | exact S5.mk ((Below.refl _ _).drew) hBle | exact S5.mk (hkB.drew) hBle | exact S5.store4 hkB hBle _ _ _ _)
        clear hK K hHeld; have hHeld := hHeld2; clear hHeld2; (try simp only [Act.put, List.setIfInBounds_toArray, List.set_cons_zero, List.set_cons_succ])
        refine wpAnyH_done (by kernel_rfl) ?_ _
        (try go_split_ands)
        have hB5 : Below w2.heap.size w2 _ := hB.trans ((hkB).mono hBs)
        go_wp2_with fail
        go_roundw
        case rel =>
          refine ⟨k + 1, by omega, by omega, by go_num, ?_, ?_⟩
          · rw [hnk.out]; exact bk4_put hbk4
          · go_grown
        case measure => simp [intOf]; omega
    · obtain rfl : k = n := by omega
      have hor : Bk wr w.heap.size 37 #[.int .i64 0, .int .i64 0, .int .i64 0, .int .i64 0] := ho.below hB hws1
      obtain ⟨⟨m0, m1, m2, m3⟩, q0, q1, q2, q3⟩ := bk4 hor
      have hwr1 : w.heap.size < wr.heap.size := by omega
      go_wp2_with fail
      refine bodyPost_ret (by simp [results, Try.results52, go_sem, *]; try rfl) rfl ?_
      exact ⟨rfl, by go_grown⟩

set_option maxHeartbeats 8000000 in
theorem iBoxOfInk (A : Option Addr) (n c : Nat) (S : List St) (P : List (List Pt)) (w : World) (h : InkRd w A n S) (hP : ptsOf S = P) (hs : ∀ s ∈ S, s.l.length ≤ 1048576) (hn : n ≤ 1048576) :
    Calls Try.prog 21 #[.agg #[.slice A n c]] w fun e w' => e = .returned (.tuple #[.agg #[.int .i64 (ibR P).1.x1, .int .i64 (ibR P).1.y1, .int .i64 (ibR P).1.x2, .int .i64 (ibR P).1.y2], .int .i64 (ibR P).2]) ∧ Below w.heap.size w w' := by
  subst hP
  have hR : Hid (ibR (ptsOf S) = ibRn (ptsOf S) n) := ibR_eq h.len
  have HV := validInk_any A n c S ((w.alloc (.cells #[.slice A n c] 29)).alloc (.cells #[.int .i64 0, .int .i64 0, .int .i64 0, .int .i64 0] 37)) ((h.alloc _).alloc _) hs hn
  have ho0 := Bk.new1 w (.cells #[.slice A n c] 29) #[.int .i64 0, .int .i64 0, .int .i64 0, .int .i64 0] 37
  have HA0 := Lib.hid ((h.alloc (.cells #[.slice A n c] 29)).alloc (.cells #[.int .i64 0, .int .i64 0, .int .i64 0, .int .i64 0] 37))
  have LA := Lib.hid h.len
  clear h
  cases h1 : inkB (ptsOf S)
  all_goals
    rw [h1] at HV
    have H1 := Lib.hid h1
    clear h1
    by_cases hn0 : n = 0
  all_goals have HN0 := Lib.hid hn0
  all_goals clear hn0
  all_goals
    go_enter Try.func21, Try.ntmps21
    go_wp2_with fail
    refine HV.mono ?_
    rintro e w2 ⟨rfl, hb⟩
    clear HV
    have hz := hb.size
    simp only [World.size_alloc] at hz
    have hT : Below w.heap.size w w2 := Below.next (by go_grown) hb
    have hws : w.heap.size < w2.heap.size := by omega
    have hws1 : w.heap.size + 1 < w2.heap.size := by omega
    have hcs : w2.cell? ⟨w.heap.size, 0, none⟩ = some (.slice A n c) := (hb.cell (p := ⟨w.heap.size, 0, none⟩) (by simp; omega)).trans (by go_simp)
    have ho : Bk w2 (w.heap.size + 1) 37 #[.int .i64 0, .int .i64 0, .int .i64 0, .int .i64 0] := ho0.below hb (by simp)
    obtain ⟨⟨o0, o1, o2, o3⟩, p0, p1, p2, p3⟩ := bk4 ho
  · go_wp2_with fail
    refine bodyPost_ret (by simp [results, Try.results21, go_sem, *]; try rfl) rfl ?_
    exact ⟨by rw [hR.out, ibR_no H1.out]; try rfl, by go_grown⟩
  · go_wp2_with fail
    refine bodyPost_ret (by simp [results, Try.results21, go_sem, *]; try rfl) rfl ?_
    exact ⟨by rw [hR.out, ibR_no H1.out]; try rfl, by go_grown⟩
  · obtain rfl : n = 0 := HN0.out
    go_wp2_with fail
    refine bodyPost_ret (by simp [results, Try.results21, go_sem, *]; try rfl) rfl ?_
    exact ⟨by rw [hR.out, ibR_nil H1.out]; try rfl, by go_grown⟩
  · have HA := Lib.hid (HA0.out.below hb)
    obtain ⟨hn16, hstr⟩ := inkB_true H1.out
    rw [LA.out] at hn16
    have hL := LA.out
    have hn0 := HN0.out
    have hni : ¬ (n : Int) = 0 := by omega
    go_wp2_with fail
    refine (boxOfInk_any A n c S (ptsOf S) _ HA.out rfl hstr (by omega) hn16).mono ?_
    rintro e w3 ⟨rfl, hb3⟩
    have hT3 := Below.next hT hb3
    have hws13 : w.heap.size + 1 < w3.heap.size := Nat.lt_of_lt_of_le hws1 hb3.size
    obtain ⟨⟨q0, q1, q2, q3⟩, r0, r1, r2, r3⟩ := bk4 (ho.below hb3 hws1)
    clear o0 o1 o2 o3 p0 p1 p2 p3
    go_wp2_with fail
    refine bodyPost_ret (by simp [results, Try.results21, go_sem, *]; try rfl) rfl ?_
    exact ⟨by rw [hR.out, ibR_some H1.out HN0.out]; try rfl, by go_grown⟩

set_option maxHeartbeats 8000000 in
theorem sBoxOfInk (A : Option Addr) (n c : Nat) (S : List St) (P : List (List Pt)) (w : World) (h : InkRd w A n S) (hP : ptsOf S = P) (hs : ∀ s ∈ S, s.l.length ≤ 1048576) (hn : n ≤ 1048576) :
    Calls Try.prog 20 #[.agg #[.slice A n c]] w fun e w' => e = .returned (.tuple #[.agg #[.int .i64 (ibR P).1.x1, .int .i64 (ibR P).1.y1, .int .i64 (ibR P).1.x2, .int .i64 (ibR P).1.y2], .int .i64 (ibR P).2]) ∧ Below w.heap.size w w' := by
  subst hP
  have hR : Hid (ibR (ptsOf S) = ibRn (ptsOf S) n) := ibR_eq h.len
  have HV := l02Ok_any w.heap.size 0 A n c S ((w.alloc (.cells #[.slice A n c] 29)).alloc (.cells #[.int .i64 0, .int .i64 0, .int .i64 0, .int .i64 0] 37)) (by go_simp) ((h.alloc _).alloc _) hs hn
  have ho0 := Bk.new1 w (.cells #[.slice A n c] 29) #[.int .i64 0, .int .i64 0, .int .i64 0, .int .i64 0] 37
  have HA0 := Lib.hid ((h.alloc (.cells #[.slice A n c] 29)).alloc (.cells #[.int .i64 0, .int .i64 0, .int .i64 0, .int .i64 0] 37))
  have LA := Lib.hid h.len
  clear h
  cases h1 : inkB (ptsOf S)
  all_goals
    rw [h1] at HV
    have H1 := Lib.hid h1
    clear h1
    by_cases hn0 : n = 0
  all_goals have HN0 := Lib.hid hn0
  all_goals clear hn0
  all_goals
    go_enter Try.func20, Try.ntmps20
    go_wp2_with fail
    refine HV.mono ?_
    rintro e w2 ⟨rfl, hb⟩
    clear HV
    have hz := hb.size
    simp only [World.size_alloc] at hz
    have hT : Below w.heap.size w w2 := Below.next (by go_grown) hb
    have hws : w.heap.size < w2.heap.size := by omega
    have hws1 : w.heap.size + 1 < w2.heap.size := by omega
    have hcs : w2.cell? ⟨w.heap.size, 0, none⟩ = some (.slice A n c) := (hb.cell (p := ⟨w.heap.size, 0, none⟩) (by simp; omega)).trans (by go_simp)
    have ho : Bk w2 (w.heap.size + 1) 37 #[.int .i64 0, .int .i64 0, .int .i64 0, .int .i64 0] := ho0.below hb (by simp)
    obtain ⟨⟨o0, o1, o2, o3⟩, p0, p1, p2, p3⟩ := bk4 ho
  · go_wp2_with fail
    refine bodyPost_ret (by simp [results, Try.results20, go_sem, *]; try rfl) rfl ?_
    exact ⟨by rw [hR.out, ibR_no H1.out]; try rfl, by go_grown⟩
  · go_wp2_with fail
    refine bodyPost_ret (by simp [results, Try.results20, go_sem, *]; try rfl) rfl ?_
    exact ⟨by rw [hR.out, ibR_no H1.out]; try rfl, by go_grown⟩
  · obtain rfl : n = 0 := HN0.out
    go_wp2_with fail
    refine bodyPost_ret (by simp [results, Try.results20, go_sem, *]; try rfl) rfl ?_
    exact ⟨by rw [hR.out, ibR_nil H1.out]; try rfl, by go_grown⟩
  · have HA := Lib.hid (HA0.out.below hb)
    obtain ⟨hn16, hstr⟩ := inkB_true H1.out
    rw [LA.out] at hn16
    have hL := LA.out
    have hn0 := HN0.out
    have hni : ¬ (n : Int) = 0 := by omega
    go_wp2_with fail
    refine (l02All_any _ 0 A n c S (ptsOf S) _ hcs HA.out rfl hstr (by omega) hn16).mono ?_
    rintro e w3 ⟨rfl, hb3⟩
    have hT3 := Below.next hT hb3
    have hws13 : w.heap.size + 1 < w3.heap.size := Nat.lt_of_lt_of_le hws1 hb3.size
    obtain ⟨⟨q0, q1, q2, q3⟩, r0, r1, r2, r3⟩ := bk4 (ho.below hb3 hws1)
    clear o0 o1 o2 o3 p0 p1 p2 p3
    go_wp2_with fail
    refine bodyPost_ret (by simp [results, Try.results20, go_sem, *]; try rfl) rfl ?_
    exact ⟨by rw [hR.out, ibR_some H1.out HN0.out]; try rfl, by go_grown⟩
end Go.Proofs.Ytnmmnikoogjhoaa
