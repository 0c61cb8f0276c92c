/-
  Points of one's own, marked with numbers in order, hold them; strokes likewise.
-/
import Derived.Test.YtnmmnikoogjhoaaMarkI
import Derived.Test.YtnmmnikoogjhoaaPts
namespace Go.Proofs.Ytnmmnikoogjhoaa
set_option linter.unusedSimpArgs false
set_option linter.unusedVariables false
set_option maxRecDepth 20000
open Go.RowKit
open Go.ChangeShapes Go.WideShapes Go.Deep Go.Joins

theorem elem_pt : Elem ptC 72 3 24 where
  len _ := rfl
  one a u hu := by simp [ptC] at hu; rcases hu with rfl | rfl | rfl <;> rfl
  pos := by omega
  info := by
    obtain ⟨i, h1, h2, h3, h4⟩ := info_parts point_info
    exact ⟨i, _, h1, h2, h3, h4, rfl⟩
/-- n points that hold the numbers from k on -/
def marksP (k n : Nat) : List Pt := (List.range n).map fun j => ⟨((k + 3 * j : Nat) : Int), ((k + 3 * j + 1 : Nat) : Int), ((k + 3 * j + 2 : Nat) : Int)⟩
theorem marksP_len (k n : Nat) : (marksP k n).length = n := by simp [marksP]
theorem marksP_at (k n j : Nat) (h : j < (marksP k n).length) : (marksP k n)[j] = ⟨((k + 3 * j : Nat) : Int), ((k + 3 * j + 1 : Nat) : Int), ((k + 3 * j + 2 : Nat) : Int)⟩ := by simp [marksP]

set_option maxHeartbeats 4000000 in
theorem markPointS_any (base : Nat) (v : Value) (l : List Pt) (n k : Nat) (w : World) (h : Own ptC 72 3 w base v l) (hl : l.length = n) (hn : n ≤ 1048576) (hk : k ≤ 4294967296) :
    Calls Try.prog 70 #[v, .int .i64 (k : Int)] w fun e w' => e = .returned (.int .i64 ((k + 3 * n : Nat) : Int)) ∧ Own ptC 72 3 w' base v (marksP k n) ∧ w.grownBy w' v.ownBlock := by
  rcases h.cases with ⟨rfl, rfl⟩ | ⟨g, cap, C, rfl, hb, hbk, hc, hm, hs⟩
  · obtain rfl : n = 0 := by rw [← hl]; rfl
    go_enter Try.func70, Try.ntmps70
    go_wp2_with fail
    refine wp_loop_rounds 1 ?_
    rw [rounds_succ]
    go_wp2_with fail
    go_ret
    exact ⟨rfl, Own.nil _ _ _ _ _, grownBy_refl _ _⟩
  · rw [hl] at hc ⊢
    have HBK := Lib.hid hbk
    have HS := Lib.hid hs
    clear h hl hbk hs
    go_enter Try.func70, Try.ntmps70
    go_wp2_with fail
    go_loopw [1, 5] (fun kk i wr => ∃ (j q : Nat) (C' : Array Value), j ≤ n ∧ i = .int .i64 (j : Int) ∧ kk = .int .i64 (q : Int) ∧ q ≤ k + 3 * j ∧ Hid (k + 3 * j = q) ∧ Hid (C'.size = cap * 3) ∧ Hid (Filled ptC C' (marksP k n) j) ∧ Bk wr g 72 C' ∧ w.grownBy wr (some g)) (fun _ i _ => n - (intOf i).toNat)
    case atStart => exact ⟨0, k, C, by omega, rfl, rfl, by omega, rfl, HS.out, Filled.zero _ _ _, HBK.out, grownBy_refl _ _⟩
    case round =>
      obtain ⟨j, q, C', hj, rfl, rfl, hqb, hq, hC, hfill, hbk, hG⟩ := hrel
      by_cases hlt : j < n
      · have hjc : j * 3 + 2 < C'.size := by have := hC.out; omega
        have hgl := hbk.lt
        have d1 := hbk.cell (j * 3)
        have d2 := hbk.cell (j * 3 + 1)
        have d3 := hbk.cell (j * 3 + 2)
        rw [Array.getElem?_eq_getElem (by omega)] at d1 d2 d3
        have f1 := hbk.frozen (j * 3)
        have f2 := hbk.frozen (j * 3 + 1)
        have f3 := hbk.frozen (j * 3 + 2)
        have hmj : j < (marksP k n).length := by rw [marksP_len]; exact hlt
        have hfill2 : Hid (Filled ptC (((C'.setIfInBounds (j * 3) (.int .i64 (q : Int))).setIfInBounds (j * 3 + 1) (.int .i64 ((q : Int) + 1))).setIfInBounds (j * 3 + 2) (.int .i64 ((q : Int) + 1 + 1))) (marksP k n) (j + 1)) :=
          hfill.out.set3 ptC_len hmj (by rw [marksP_len]; have := hC.out; omega) (by
            rw [marksP_at, hq.out]
            have e1 : ((q + 1 : Nat) : Int) = (q : Int) + 1 := by omega
            have e2 : ((q + 2 : Nat) : Int) = (q : Int) + 1 + 1 := by omega
            simp only [ptC, e1, e2])
        go_wp2_with fail
        go_roundw
        case rel => exact ⟨j + 1, q + 3, _, by omega, by go_num, by go_num, by omega, by rw [Hid, ← hq.out]; omega, by simpa [Hid] using hC.out, hfill2, ((hbk.put _ _).put _ _).put _ _, grownBy_trans (grownBy_trans (grownBy_trans hG (grownBy_setCell _ _ _ _)) (grownBy_setCell _ _ _ _)) (grownBy_setCell _ _ _ _)⟩
        case measure => simp [intOf]; omega
      · obtain rfl : j = n := by omega
        go_wp2_with fail
        go_ret
        have h2 := Own.of_filled (base := base) (l := marksP k j) ptC_len hbk hC.out (by rw [marksP_len]; exact hc) hm hb (by rw [marksP_len]; exact hfill.out)
        rw [marksP_len] at h2
        exact ⟨ret_int (by have := hq.out; omega), h2, hG⟩

set_option maxHeartbeats 4000000 in
theorem heldPointS_any (A : Option Addr) (n c k : Nat) (w : World) (h : Rd w A n 3 (rowOf ptC (marksP k n))) (hn : n ≤ 1048576) (hk : k ≤ 4294967296) :
    Calls Try.prog 87 #[.slice A n c, .int .i64 (k : Int)] w fun e w' => e = .returned (.int .i64 ((k + 3 * n : Nat) : Int)) ∧ w = w' := by
  have HH := Lib.hid h
  clear h
  go_enter Try.func87, Try.ntmps87
  go_wp2_with fail
  go_loop [1, 5] (fun kk i => ∃ (j q : Nat), j ≤ n ∧ i = .int .i64 (j : Int) ∧ kk = .int .i64 (q : Int) ∧ q ≤ k + 3 * j ∧ Hid (k + 3 * j = q)) (fun _ i => n - (intOf i).toNat)
  case atStart => exact ⟨0, k, by omega, rfl, rfl, by omega, rfl⟩
  case round =>
    obtain ⟨j, q, hj, rfl, rfl, hqb, hq⟩ := hrel
    by_cases hlt : j < n
    · have hmj : j < (marksP k n).length := by rw [marksP_len]; exact hlt
      obtain ⟨b1, o1, rfl, l1, c1, c2, c3⟩ := HH.out.pt (marksP_len k n) hmj
      rw [marksP_at] at c1 c2 c3
      have d1 : w.cell? ⟨b1, o1 + j * 3, none⟩ = some (.int .i64 (q : Int)) := by rw [c1, hq.out]
      have d2 : w.cell? ⟨b1, o1 + j * 3 + 1, none⟩ = some (.int .i64 ((q : Int) + 1)) := by
        have e1 : ((q + 1 : Nat) : Int) = (q : Int) + 1 := by omega
        rw [c2, hq.out, e1]
      have d3 : w.cell? ⟨b1, o1 + j * 3 + 2, none⟩ = some (.int .i64 ((q : Int) + 1 + 1)) := by
        have e1 : ((q + 2 : Nat) : Int) = (q : Int) + 1 + 1 := by omega
        rw [c3, hq.out, e1]
      clear c1 c2 c3
      go_wp2_with fail
      go_round
      case rel => exact ⟨j + 1, q + 3, by omega, by go_num, by go_num, by omega, by rw [Hid, ← hq.out]; omega⟩
      case measure => simp [intOf]; omega
    · obtain rfl : j = n := by omega
      go_wp2_with fail
      go_ret
      exact ⟨ret_int (by have := hq.out; omega), rfl⟩

theorem markStroke_any (base : Nat) (v : Value) (l : List Pt) (n k : Nat) (w : World) (h : Own ptC 72 3 w base v l) (hl : l.length = n) (hn : n ≤ 1048576) (hk : k ≤ 4294967296) :
    Calls Try.prog 34 #[.agg #[v], .int .i64 (k : Int)] w fun e w' => e = .returned (.int .i64 ((k + 3 * n : Nat) : Int)) ∧ Own ptC 72 3 w' base v (marksP k n) ∧ w.grownBy w' v.ownBlock := by
  have HH := Lib.hid h
  have HL := Lib.hid hl
  clear h hl
  go_enter Try.func34, Try.ntmps34
  go_wp2_with fail
  refine (markPointS_any base v l n k _ (HH.out.alloc _) HL.out hn hk).mono ?_
  rintro e w2 ⟨rfl, hown, hg⟩
  have hG : w.grownBy w2 v.ownBlock := grownBy_trans (World.grownBy_alloc w _ _) hg
  go_wp2_with fail
  go_ret
  exact ⟨rfl, hown, hG⟩
end Go.Proofs.Ytnmmnikoogjhoaa
