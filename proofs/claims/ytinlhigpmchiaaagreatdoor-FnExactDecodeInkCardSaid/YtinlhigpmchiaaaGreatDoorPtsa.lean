/-
  Points: program and reference ask the same of a point; a point of the law becomes a point of the program. Lists of points in memory: a stroke of the law becomes a stroke of the program; it is compared, marked, and held. Points of one's own, marked with numbers in order, hold them; strokes likewise. Lists of points: the laws' comparison, size, marks. Inks in memory: a slice of strokes, each a slice of points; of one's own, with all rows apart. Inks of the law become inks of the program: made, sized, compared. A stroke is valid: program and reference ask the same.
-/
import Derived.Test.YtinlhigpmchiaaaGreatDoorSmall
import Derived.Test.YtinlhigpmchiaaaGreatDoorKda
import Derived.Test.YtinlhigpmchiaaaGreatDoorOpen
import Derived.Laws.OwnMore
namespace Go.Proofs.YtinlhigpmchiaaaGreatDoor
set_option linter.unusedSimpArgs false
set_option linter.unusedVariables false
set_option maxRecDepth 20000
open Go.RowKit

structure Pt where
  x : Int
  y : Int
  t : Int
  deriving DecidableEq

def ptB (p : Pt) : Bool := inB p.x 0 4095 && inB p.y 0 4095 && inB p.t 0 3600000
theorem ptB_true {p : Pt} (h : ptB p = true) : (0 ≤ p.x ∧ p.x ≤ 4095) ∧ (0 ≤ p.y ∧ p.y ≤ 4095) ∧ 0 ≤ p.t ∧ p.t ≤ 3600000 := by
  simp only [ptB, Bool.and_eq_true] at h
  exact ⟨inB_true h.1.1, inB_true h.1.2, inB_true h.2⟩

theorem isCoord_any (n : Int) (w : World) :
    Calls Tryz.prog 76 #[.int .i64 n] w fun e w' => e = .returned (.bool (inB n 0 4095)) ∧ w = w' := by
  go_enter Tryz.func76, Tryz.ntmps76
  go_wp2_with (go_at_call 77; refine (within_any _ _ _ _).mono ?_; rintro e w' ⟨rfl, rfl⟩)
  go_ret
  exact ⟨rfl, rfl⟩

set_option maxHeartbeats 1000000 in
theorem iValidPoint (p : Pt) (w : World) :
    Calls Tryz.prog 60 #[.agg #[.int .i64 p.x, .int .i64 p.y, .int .i64 p.t]] w fun e w' => e = .returned (.bool (ptB p)) ∧ Below w.heap.size w w' := by
  cases h1 : inB p.x 0 4095 <;> cases h2 : inB p.y 0 4095 <;> cases h3 : inB p.t 0 3600000
  all_goals
    go_enter Tryz.func60, Tryz.ntmps60
    go_wp2_with (first | (go_at_call 77; refine (within_any _ _ _ _).mono ?_; rintro e w' ⟨rfl, rfl⟩) | (go_at_call 76; refine (isCoord_any _ _).mono ?_; rintro e w' ⟨rfl, rfl⟩))
    go_ret
    exact ⟨ret_bool (by simp [ptB, h1, h2, h3]), by go_grown⟩

set_option maxHeartbeats 1000000 in
theorem l02Point_any (p : Pt) (w : World) :
    Calls Tryz.prog 52 #[.agg #[.int .i64 p.x, .int .i64 p.y, .int .i64 p.t]] w fun e w' => e = .returned (.bool (ptB p)) ∧ Below w.heap.size w w' := by
  cases h1 : inB p.x 0 4095 <;> cases h2 : inB p.y 0 4095 <;> cases h3 : inB p.t 0 3600000
  all_goals
    go_enter Tryz.func52, Tryz.ntmps52
    go_wp2_with (go_at_call 53; refine (l00In_any _ _ _ _).mono ?_; rintro e w' ⟨rfl, rfl⟩)
    go_ret
    exact ⟨ret_bool (by simp [ptB, h1, h2, h3]), by go_grown⟩

/-- its numbers fit int64 -/
def Pt.wf (p : Pt) : Prop := (Lit.int .i64 p.x).wf = true ∧ (Lit.int .i64 p.y).wf = true ∧ (Lit.int .i64 p.t).wf = true

end Go.Proofs.YtinlhigpmchiaaaGreatDoor
namespace Go.Proofs.YtinlhigpmchiaaaGreatDoor
set_option linter.unusedSimpArgs false
set_option linter.unusedVariables false
set_option maxRecDepth 20000
open Go.RowKit
open Go.ChangeShapes Go.WideShapes Go.Deep Go.Joins

def ptC (p : Pt) : List Value := [.int .i64 p.x, .int .i64 p.y, .int .i64 p.t]
theorem ptC_len (p : Pt) : (ptC p).length = 3 := rfl
instance : Inhabited Pt := ⟨⟨0, 0, 0⟩⟩
theorem Rd.pt {w : World} {A : Option Addr} {n : Nat} {l : List Pt} (h : Rd w A n 3 (rowOf ptC l)) (hn : l.length = n) {k : Nat} (hk : k < l.length) :
    ∃ b off, A = some ⟨b, off, none⟩ ∧ b < w.heap.size ∧ w.cell? ⟨b, off + k * 3, none⟩ = some (.int .i64 l[k].x) ∧ w.cell? ⟨b, off + k * 3 + 1, none⟩ = some (.int .i64 l[k].y) ∧ w.cell? ⟨b, off + k * 3 + 2, none⟩ = some (.int .i64 l[k].t) := by
  obtain ⟨b, off, e, hlt, hc⟩ := h.at ptC_len hn hk
  exact ⟨b, off, e, hlt, hc 0 _ rfl, hc 1 _ rfl, hc 2 _ rfl⟩

/-- a row of one's own reads as a list -/
theorem Rd.own {w : World} {base t size n : Nat} {v : Value} {xs : List Value} (h : w.ownsRow base t size v n xs) : ∃ A c, v = .slice A n c ∧ n ≤ c ∧ c ≤ 9223372036854775807 ∧ Rd w A n size xs := by
  rcases h.2 with ⟨rfl, h0⟩ | ⟨g, cap, cur, rfl, _, hg, hc, hm, hs, htk⟩
  · subst h0
    exact ⟨none, 0, rfl, Nat.le_refl _, by omega, h.1, fun hn => absurd hn (by omega)⟩
  · refine ⟨_, _, rfl, hc, by unfold maxLen at hm; omega, h.1, fun _ => ⟨g, 0, rfl, (Array.getElem?_eq_some_iff.1 hg).1, fun j u hu => ?_⟩⟩
    rw [Nat.zero_add, cell_of_row w g j cur t (0, 0) hg]
    rw [← htk, List.getElem?_take] at hu
    split at hu
    · simpa using hu
    · cases hu
theorem Bk.owns {w : World} {g base t size n : Nat} {xs : List Value} (h : Bk w g t xs.toArray) (hl : xs.length = n * size) (hm : n ≤ maxLen) (hb : base ≤ g) : w.ownsRow base t size (.slice (some ⟨g, 0, none⟩) n n) n xs :=
  ⟨hl, .inr ⟨g, n, xs.toArray, rfl, hb, h, Nat.le_refl _, hm, by simpa using hl, List.take_of_length_le (by simp [hl])⟩⟩
theorem own_below2 {w w' : World} {base t size n : Nat} {v : Value} {xs : List Value} (h : w.ownsRow base t size v n xs) {B : Nat} (hb : Below B w w') (hB : ∀ k, v.ownBlock = some k → k < B) : w'.ownsRow base t size v n xs := by
  refine ⟨h.1, ?_⟩
  rcases h.2 with ⟨rfl, h0⟩ | ⟨g, cap, cur, rfl, hg, hg2, rest⟩
  · exact .inl ⟨rfl, h0⟩
  · exact .inr ⟨g, cap, cur, rfl, hg, (hb.block g (hB g rfl)).trans hg2, rest⟩
theorem own_next {w w' : World} {base t size n : Nat} {v : Value} {xs : List Value} (h : w.ownsRow base t size v n xs) (hb : Below w.heap.size w w') : w'.ownsRow base t size v n xs := own_below2 h hb (fun k hk => (h.lt k hk).2)

theorem Bk.other {w : World} {g : Nat} {t : TypeId} {cs : Array Value} (h : Bk w g t cs) {a : Addr} (ha : g ≠ a.block) (u : Value) : Bk (w.setCell a u) g t cs := (Below.heap_setCell w a u g ha).trans h

theorem point_info : (Tryz.prog.info? 58).map (fun i => (i.zero, i.size, i.bytes)) = some (some (.agg #[.int .i64 0, .int .i64 0, .int .i64 0]), 3, 24) := by kernel_rfl

end Go.Proofs.YtinlhigpmchiaaaGreatDoor
namespace Go.Proofs.YtinlhigpmchiaaaGreatDoor
set_option linter.unusedSimpArgs false
set_option linter.unusedVariables false
set_option maxRecDepth 20000
open Go.RowKit
open Go.ChangeShapes Go.WideShapes Go.Deep Go.Joins

theorem elem_pt : Elem ptC 58 3 24 where
  len _ := rfl
  one a u hu := by simp [ptC] at hu; rcases hu with rfl | rfl | rfl <;> rfl
  pos := by omega
  info := by
    obtain ⟨i, h1, h2, h3, h4⟩ := info_parts point_info
    exact ⟨i, _, h1, h2, h3, h4, rfl⟩
/-- n points that hold the numbers from k on -/
def marksP (k n : Nat) : List Pt := (List.range n).map fun j => ⟨((k + 3 * j : Nat) : Int), ((k + 3 * j + 1 : Nat) : Int), ((k + 3 * j + 2 : Nat) : Int)⟩
theorem marksP_len (k n : Nat) : (marksP k n).length = n := by simp [marksP]
theorem marksP_at (k n j : Nat) (h : j < (marksP k n).length) : (marksP k n)[j] = ⟨((k + 3 * j : Nat) : Int), ((k + 3 * j + 1 : Nat) : Int), ((k + 3 * j + 2 : Nat) : Int)⟩ := by simp [marksP]

set_option maxHeartbeats 4000000 in
theorem markPointS_any (base : Nat) (v : Value) (l : List Pt) (n k : Nat) (w : World) (h : Own ptC 58 3 w base v l) (hl : l.length = n) (hn : n ≤ 1048576) (hk : k ≤ 4294967296) :
    Calls Tryz.prog 48 #[v, .int .i64 (k : Int)] w fun e w' => e = .returned (.int .i64 ((k + 3 * n : Nat) : Int)) ∧ Own ptC 58 3 w' base v (marksP k n) ∧ w.grownBy w' v.ownBlock := by
  rcases h.cases with ⟨rfl, rfl⟩ | ⟨g, cap, C, rfl, hb, hbk, hc, hm, hs⟩
  · obtain rfl : n = 0 := by rw [← hl]; rfl
    go_enter Tryz.func48, Tryz.ntmps48
    go_wp2_with fail
    refine wp_loop_rounds 1 ?_
    rw [rounds_succ]
    go_wp2_with fail
    go_ret
    exact ⟨rfl, Own.nil _ _ _ _ _, grownBy_refl _ _⟩
  · rw [hl] at hc ⊢
    have HBK := Lib.hid hbk
    have HS := Lib.hid hs
    clear h hl hbk hs
    go_enter Tryz.func48, Tryz.ntmps48
    go_wp2_with fail
    go_loopw [1, 5] (fun kk i wr => ∃ (j q : Nat) (C' : Array Value), j ≤ n ∧ i = .int .i64 (j : Int) ∧ kk = .int .i64 (q : Int) ∧ q ≤ k + 3 * j ∧ Hid (k + 3 * j = q) ∧ Hid (C'.size = cap * 3) ∧ Hid (Filled ptC C' (marksP k n) j) ∧ Bk wr g 58 C' ∧ w.grownBy wr (some g)) (fun _ i _ => n - (intOf i).toNat)
    case atStart => exact ⟨0, k, C, by omega, rfl, rfl, by omega, rfl, HS.out, Filled.zero _ _ _, HBK.out, grownBy_refl _ _⟩
    case round =>
      obtain ⟨j, q, C', hj, rfl, rfl, hqb, hq, hC, hfill, hbk, hG⟩ := hrel
      by_cases hlt : j < n
      · have hjc : j * 3 + 2 < C'.size := by have := hC.out; omega
        have hgl := hbk.lt
        have d1 := hbk.cell (j * 3)
        have d2 := hbk.cell (j * 3 + 1)
        have d3 := hbk.cell (j * 3 + 2)
        rw [Array.getElem?_eq_getElem (by omega)] at d1 d2 d3
        have f1 := hbk.frozen (j * 3)
        have f2 := hbk.frozen (j * 3 + 1)
        have f3 := hbk.frozen (j * 3 + 2)
        have hmj : j < (marksP k n).length := by rw [marksP_len]; exact hlt
        have hfill2 : Hid (Filled ptC (((C'.setIfInBounds (j * 3) (.int .i64 (q : Int))).setIfInBounds (j * 3 + 1) (.int .i64 ((q : Int) + 1))).setIfInBounds (j * 3 + 2) (.int .i64 ((q : Int) + 1 + 1))) (marksP k n) (j + 1)) :=
          hfill.out.set3 ptC_len hmj (by rw [marksP_len]; have := hC.out; omega) (by
            rw [marksP_at, hq.out]
            have e1 : ((q + 1 : Nat) : Int) = (q : Int) + 1 := by omega
            have e2 : ((q + 2 : Nat) : Int) = (q : Int) + 1 + 1 := by omega
            simp only [ptC, e1, e2])
        go_wp2_with fail
        go_roundw
        case rel => exact ⟨j + 1, q + 3, _, by omega, by go_num, by go_num, by omega, by rw [Hid, ← hq.out]; omega, by simpa [Hid] using hC.out, hfill2, ((hbk.put _ _).put _ _).put _ _, grownBy_trans (grownBy_trans (grownBy_trans hG (grownBy_setCell _ _ _ _)) (grownBy_setCell _ _ _ _)) (grownBy_setCell _ _ _ _)⟩
        case measure => simp [intOf]; omega
      · obtain rfl : j = n := by omega
        go_wp2_with fail
        go_ret
        have h2 := Own.of_filled (base := base) (l := marksP k j) ptC_len hbk hC.out (by rw [marksP_len]; exact hc) hm hb (by rw [marksP_len]; exact hfill.out)
        rw [marksP_len] at h2
        exact ⟨ret_int (by have := hq.out; omega), h2, hG⟩

set_option maxHeartbeats 4000000 in
theorem heldPointS_any (A : Option Addr) (n c k : Nat) (w : World) (h : Rd w A n 3 (rowOf ptC (marksP k n))) (hn : n ≤ 1048576) (hk : k ≤ 4294967296) :
    Calls Tryz.prog 49 #[.slice A n c, .int .i64 (k : Int)] w fun e w' => e = .returned (.int .i64 ((k + 3 * n : Nat) : Int)) ∧ w = w' := by
  have HH := Lib.hid h
  clear h
  go_enter Tryz.func49, Tryz.ntmps49
  go_wp2_with fail
  go_loop [1, 5] (fun kk i => ∃ (j q : Nat), j ≤ n ∧ i = .int .i64 (j : Int) ∧ kk = .int .i64 (q : Int) ∧ q ≤ k + 3 * j ∧ Hid (k + 3 * j = q)) (fun _ i => n - (intOf i).toNat)
  case atStart => exact ⟨0, k, by omega, rfl, rfl, by omega, rfl⟩
  case round =>
    obtain ⟨j, q, hj, rfl, rfl, hqb, hq⟩ := hrel
    by_cases hlt : j < n
    · have hmj : j < (marksP k n).length := by rw [marksP_len]; exact hlt
      obtain ⟨b1, o1, rfl, l1, c1, c2, c3⟩ := HH.out.pt (marksP_len k n) hmj
      rw [marksP_at] at c1 c2 c3
      have d1 : w.cell? ⟨b1, o1 + j * 3, none⟩ = some (.int .i64 (q : Int)) := by rw [c1, hq.out]
      have d2 : w.cell? ⟨b1, o1 + j * 3 + 1, none⟩ = some (.int .i64 ((q : Int) + 1)) := by
        have e1 : ((q + 1 : Nat) : Int) = (q : Int) + 1 := by omega
        rw [c2, hq.out, e1]
      have d3 : w.cell? ⟨b1, o1 + j * 3 + 2, none⟩ = some (.int .i64 ((q : Int) + 1 + 1)) := by
        have e1 : ((q + 2 : Nat) : Int) = (q : Int) + 1 + 1 := by omega
        rw [c3, hq.out, e1]
      clear c1 c2 c3
      go_wp2_with fail
      go_round
      case rel => exact ⟨j + 1, q + 3, by omega, by go_num, by go_num, by omega, by rw [Hid, ← hq.out]; omega⟩
      case measure => simp [intOf]; omega
    · obtain rfl : j = n := by omega
      go_wp2_with fail
      go_ret
      exact ⟨ret_int (by have := hq.out; omega), rfl⟩

end Go.Proofs.YtinlhigpmchiaaaGreatDoor
namespace Go.Proofs.YtinlhigpmchiaaaGreatDoor
set_option linter.unusedSimpArgs false
set_option linter.unusedVariables false
set_option maxRecDepth 20000
open Go.RowKit

theorem eqPoint_same (p : Pt) (w : World) :
    Calls Tryz.prog 82 #[.agg #[.int .i64 p.x, .int .i64 p.y, .int .i64 p.t], .agg #[.int .i64 p.x, .int .i64 p.y, .int .i64 p.t]] w fun e w' => e = .returned (.bool true) ∧ Below w.heap.size w w' := by
  go_enter Tryz.func82, Tryz.ntmps82
  go_wp2
  go_ret
  exact ⟨rfl, by go_grown⟩

set_option maxHeartbeats 2000000 in
theorem eqPointS_same (A B : Option Addr) (n c d : Nat) (xs : List Pt) (w : World) (ha : Rd w A n 3 (rowOf ptC xs)) (hb : Rd w B n 3 (rowOf ptC xs)) (la : xs.length = n) (hn : n ≤ 1048576) :
    Calls Tryz.prog 66 #[.slice A n c, .slice B n d] w fun e w' => e = .returned (.bool true) ∧ Below w.heap.size w w' := by
  have HA := Lib.hid ha
  have HD := Lib.hid hb
  have LA := Lib.hid la
  clear ha hb la
  go_enter Tryz.func66, Tryz.ntmps66
  go_wp2_with fail
  go_loopw [5] (fun i wr => ∃ k : Nat, k ≤ n ∧ i = .int .i64 k ∧ Below w.heap.size w wr) (fun i _ => n - (intOf i).toNat)
  case atStart => exact ⟨0, Nat.zero_le _, rfl, Below.refl _ _⟩
  case round =>
    obtain ⟨k, hk, rfl, hW⟩ := hrel
    by_cases hlt : k < n
    · have ka : k < xs.length := by have := LA.out; omega
      obtain ⟨b1, o1, rfl, l1, c1, c2, c3⟩ := (HA.out.below hW).pt LA.out ka
      obtain ⟨b2, o2, rfl, l2, c4, c5, c6⟩ := (HD.out.below hW).pt LA.out ka
      go_wp2_with fail
      go_region_held3 (fun w' => (∀ kb ko, kb < wr.heap.size → w'.cell? ⟨kb, ko, none⟩ = wr.cell? ⟨kb, ko, none⟩) ∧ wr.heap.size ≤ w'.heap.size ∧ Below wr.heap.size wr w') (first | exact SB.mk hkB | exact SB.mk ((Below.refl _ _).drew) | (go_split_ands; refine SB.mk (Below.drew ?_); assumption) | (refine SB.mk ?_; go_grown; done) | (go_split_ands; refine SB.mk ?_; go_grown; done)) ((go_at_call 82; (with_reducible refine (eqPoint_same _ _).mono ?_); rintro e w' ⟨rfl, hb⟩; obtain ⟨_, hks, hkB⟩ := SB.next (by assumption) hb; obtain ⟨hkc, hkf⟩ := bcell hb; have hkz := hb.size; (try simp only [World.size_alloc, World.size_drew] at hkz); (first | (have hkt := Nat.lt_of_succ_le hkz) | (have hkt := Nat.lt_of_lt_of_le (by assumption) hkz) | skip); clear hb))
      go_split_ands
      go_wp2_with fail
      go_roundw
      case rel => exact ⟨k + 1, by omega, by go_num, Below.next hW (by assumption)⟩
      case measure => simp [intOf]; omega
    · go_wp2_with fail
      go_ret
      exact ⟨rfl, hW⟩

theorem eqStroke_same (A B : Option Addr) (n c d : Nat) (xs : List Pt) (w : World) (ha : Rd w A n 3 (rowOf ptC xs)) (hb : Rd w B n 3 (rowOf ptC xs)) (la : xs.length = n) (hn : n ≤ 1048576) :
    Calls Tryz.prog 47 #[.agg #[.slice A n c], .agg #[.slice B n d]] w fun e w' => e = .returned (.bool true) ∧ Below w.heap.size w w' := by
  go_enter Tryz.func47, Tryz.ntmps47
  go_wp2_with fail
  refine (eqPointS_same A B n c d xs _ (by first | exact ha | exact ha.alloc _ | exact (ha.alloc _).alloc _ | exact ((ha.alloc _).alloc _).alloc _) (by first | exact hb | exact hb.alloc _ | exact (hb.alloc _).alloc _) la hn).mono ?_
  rintro e w2 ⟨rfl, hb2⟩
  go_wp2_with fail
  go_ret
  exact ⟨rfl, Below.next (by go_grown) hb2⟩

open Go.ChangeShapes Go.WideShapes Go.Deep Go.Joins
/-- a stroke in memory or as an argument: where its points lie, what they are -/
structure St where
  A : Option Addr
  c : Nat
  l : List Pt
def St.good (w : World) (s : St) : Prop := s.l.length ≤ s.c ∧ s.c ≤ 9223372036854775807 ∧ Rd w s.A s.l.length 3 (rowOf ptC s.l)
end Go.Proofs.YtinlhigpmchiaaaGreatDoor
namespace Go.Proofs.YtinlhigpmchiaaaGreatDoor
set_option linter.unusedSimpArgs false
set_option linter.unusedVariables false
set_option maxRecDepth 20000
open Go.RowKit
open Go.ChangeShapes Go.WideShapes Go.Deep Go.Joins

def St.val (s : St) : Value := .slice s.A s.l.length s.c
def skC (s : St) : List Value := [s.val]
theorem skC_len (s : St) : (skC s).length = 1 := rfl
instance : Inhabited St := ⟨⟨none, 0, []⟩⟩
theorem stroke_info : (Tryz.prog.info? 38).map (fun i => (i.zero, i.size, i.bytes)) = some (some (.agg #[.slice none 0 0]), 1, 24) := by kernel_rfl
theorem elem_sk : Elem skC 38 1 24 where
  len _ := rfl
  one a u hu := by simp [skC, St.val] at hu; subst hu; rfl
  pos := by omega
  info := by
    obtain ⟨i, h1, h2, h3, h4⟩ := info_parts stroke_info
    exact ⟨i, _, h1, h2, h3, h4, rfl⟩
/-- the points -/
def ptsOf (S : List St) : List (List Pt) := S.map (·.l)

/-- an ink that reads so -/
structure InkRd (w : World) (A : Option Addr) (n : Nat) (S : List St) : Prop where
  len : S.length = n
  row : Rd w A n 1 (rowOf skC S)
  pts : ∀ s ∈ S, Rd w s.A s.l.length 3 (rowOf ptC s.l)
theorem InkRd.below {w w' : World} {A : Option Addr} {n : Nat} {S : List St} (h : InkRd w A n S) (hb : Below w.heap.size w w') : InkRd w' A n S :=
  ⟨h.len, h.row.below hb, fun s hs => (h.pts s hs).below hb⟩
theorem InkRd.alloc {w : World} {A : Option Addr} {n : Nat} {S : List St} (h : InkRd w A n S) (o : Obj) : InkRd (w.alloc o) A n S := h.below ((Below.refl _ _).alloc (Nat.le_refl _) o)
theorem InkRd.drew {w : World} {A : Option Addr} {n : Nat} {S : List St} (h : InkRd w A n S) : InkRd w.drew A n S := ⟨h.len, h.row, h.pts⟩
/-- stroke k: its header's cell, its points -/
theorem InkRd.at {w : World} {A : Option Addr} {n : Nat} {S : List St} (h : InkRd w A n S) {k : Nat} (hk : k < S.length) :
    ∃ b off, A = some ⟨b, off, none⟩ ∧ b < w.heap.size ∧ w.cell? ⟨b, off + k, none⟩ = some (.slice S[k].A S[k].l.length S[k].c) ∧ Rd w S[k].A S[k].l.length 3 (rowOf ptC S[k].l) := by
  obtain ⟨b, off, e, hlt, hc⟩ := h.row.at skC_len h.len hk
  exact ⟨b, off, e, hlt, by simpa [St.val] using hc 0 _ rfl, h.pts _ (List.getElem_mem hk)⟩

/-- rows apart: no two strokes lie in one block -/
def Apt (s t : St) : Prop := ∀ k, s.val.ownBlock = some k → t.val.ownBlock ≠ some k
/-- the strokes' rows are one's own, in blocks from lo to hi, apart -/
structure Inner (w : World) (lo hi : Nat) (S : List St) : Prop where
  own : ∀ s ∈ S, Own ptC 58 3 w lo s.val s.l
  top : ∀ s ∈ S, ∀ k, s.val.ownBlock = some k → k < hi
  apt : S.Pairwise Apt
theorem Inner.nil (w : World) (lo hi : Nat) : Inner w lo hi [] := ⟨fun s hs => by simp at hs, fun s hs => by simp at hs, List.Pairwise.nil⟩
theorem Inner.keep {w w' : World} {lo hi : Nat} {S : List St} (h : Inner w lo hi S) (hb : ∀ k, lo ≤ k → k < hi → k < w.heap.size → w'.heap[k]? = w.heap[k]?) : Inner w' lo hi S :=
  ⟨fun s hs => (h.own s hs).of_block fun k hk => hb k ((h.own s hs).lt k hk).1 (h.top s hs k hk) ((h.own s hs).lt k hk).2, h.top, h.apt⟩
theorem Inner.next {w w' : World} {lo hi : Nat} {S : List St} (h : Inner w lo hi S) (hb : Below w.heap.size w w') : Inner w' lo hi S := h.keep fun k _ _ hk => hb.block k hk
theorem Inner.mono {w : World} {lo hi hi' : Nat} {S : List St} (h : Inner w lo hi S) (hh : hi ≤ hi') : Inner w lo hi' S := ⟨h.own, fun s hs k hk => Nat.lt_of_lt_of_le (h.top s hs k hk) hh, h.apt⟩
theorem Inner.low {w : World} {lo lo' hi : Nat} {S : List St} (h : Inner w lo hi S) (hh : lo' ≤ lo) : Inner w lo' hi S := ⟨fun s hs => (h.own s hs).mono hh, h.top, h.apt⟩
theorem Inner.push {w : World} {lo hi hi' : Nat} {S : List St} {t : St} (h : Inner w lo hi S) (ht : Own ptC 58 3 w lo t.val t.l) (hlo : ∀ k, t.val.ownBlock = some k → hi ≤ k) (hhi : ∀ k, t.val.ownBlock = some k → k < hi') (hh : hi ≤ hi') :
    Inner w lo hi' (S ++ [t]) := by
  refine ⟨fun s hs => ?_, fun s hs k hk => ?_, ?_⟩
  · rw [List.mem_append, List.mem_singleton] at hs
    rcases hs with hs | rfl
    · exact h.own s hs
    · exact ht
  · rw [List.mem_append, List.mem_singleton] at hs
    rcases hs with hs | rfl
    · exact Nat.lt_of_lt_of_le (h.top s hs k hk) hh
    · exact hhi k hk
  · rw [List.pairwise_append]
    refine ⟨h.apt, List.pairwise_singleton _ _, fun s hs u hu => ?_⟩
    rw [List.mem_singleton] at hu
    subst hu
    intro k hk he
    have h1 := h.top s hs k hk
    have h2 := hlo k he
    omega
/-- an ink of one's own: the row of strokes, too -/
structure InkOwn (w : World) (lo hi : Nat) (v : Value) (S : List St) : Prop where
  row : Own skC 38 1 w lo v S
  top : ∀ k, v.ownBlock = some k → k < hi
  inner : Inner w lo hi S
  apt : ∀ s ∈ S, ∀ k, s.val.ownBlock = some k → v.ownBlock ≠ some k
theorem InkOwn.keep {w w' : World} {lo hi : Nat} {v : Value} {S : List St} (h : InkOwn w lo hi v S) (hb : ∀ k, lo ≤ k → k < hi → k < w.heap.size → w'.heap[k]? = w.heap[k]?) : InkOwn w' lo hi v S :=
  ⟨h.row.of_block fun k hk => hb k (h.row.lt k hk).1 (h.top k hk) (h.row.lt k hk).2, h.top, h.inner.keep hb, h.apt⟩
theorem InkOwn.next {w w' : World} {lo hi : Nat} {v : Value} {S : List St} (h : InkOwn w lo hi v S) (hb : Below w.heap.size w w') : InkOwn w' lo hi v S := h.keep fun k _ _ hk => hb.block k hk
theorem InkOwn.rd {w : World} {lo hi : Nat} {A : Option Addr} {n c : Nat} {S : List St} (h : InkOwn w lo hi (.slice A n c) S) (hn : S.length = n) : InkRd w A n S :=
  ⟨hn, h.row.rdS hn, fun s hs => by have := (h.inner.own s hs).rdS (A := s.A) (n := s.l.length) (c := s.c) rfl; exact this⟩
theorem InkOwn.drew {w : World} {lo hi : Nat} {v : Value} {S : List St} (h : InkOwn w lo hi v S) : InkOwn w.drew lo hi v S := h.keep fun _ _ _ _ => rfl
theorem InkOwn.alloc {w : World} {lo hi : Nat} {v : Value} {S : List St} (h : InkOwn w lo hi v S) (o : Obj) : InkOwn (w.alloc o) lo hi v S := h.next ((Below.refl _ _).alloc (Nat.le_refl _) o)
theorem InkOwn.nil (w : World) (lo hi : Nat) : InkOwn w lo hi (.slice none 0 0) [] := ⟨Own.nil _ _ _ _ _, fun k hk => by simp [Value.ownBlock] at hk, Inner.nil _ _ _, fun s hs => by simp at hs⟩

theorem InkOwn.low {w : World} {lo lo' hi : Nat} {v : Value} {S : List St} (h : InkOwn w lo hi v S) (hh : lo' ≤ lo) : InkOwn w lo' hi v S := ⟨h.row.mono hh, h.top, h.inner.low hh, h.apt⟩

/-- blocks from lo to hi alone have changed -/
structure Chg (lo hi : Nat) (w w' : World) : Prop where
  os : w'.os = w.os
  tape : w'.tape = w.tape
  output : w'.output = w.output
  size : w.heap.size ≤ w'.heap.size
  block : ∀ k, k < w.heap.size → (k < lo ∨ hi ≤ k) → w'.heap[k]? = w.heap[k]?
theorem Chg.refl (lo hi : Nat) (w : World) : Chg lo hi w w := ⟨rfl, rfl, rfl, Nat.le_refl _, fun _ _ _ => rfl⟩
theorem Chg.trans {lo hi : Nat} {a b c : World} (h : Chg lo hi a b) (k : Chg lo hi b c) : Chg lo hi a c :=
  ⟨k.os.trans h.os, k.tape.trans h.tape, k.output.trans h.output, Nat.le_trans h.size k.size, fun i hi hn => (k.block i (Nat.lt_of_lt_of_le hi h.size) hn).trans (h.block i hi hn)⟩
theorem Chg.of_grown {lo hi : Nat} {w w' : World} {v : Value} (h : w.grownBy w' v.ownBlock) (hlo : ∀ k, v.ownBlock = some k → lo ≤ k ∧ k < hi) : Chg lo hi w w' :=
  ⟨h.os, h.tape, h.output, h.size, fun k hk hn => h.block k hk (fun e => by have := hlo k e.symm; omega)⟩
theorem Chg.of_below {lo hi : Nat} {w w' : World} (h : Below w.heap.size w w') : Chg lo hi w w' := ⟨h.os, h.tape, h.output, h.size, fun k hk _ => h.block k hk⟩
theorem Chg.below {lo hi : Nat} {w w' : World} (h : Chg lo hi w w') (hl : lo ≤ w.heap.size) : Below lo w w' := ⟨h.os, h.tape, h.output, h.size, fun k hk => h.block k (by omega) (.inl hk)⟩
theorem Chg.cell {lo hi : Nat} {w w' : World} (h : Chg lo hi w w') {b : Nat} (o : Nat) (hb : b < w.heap.size) (hn : b < lo ∨ hi ≤ b) : w'.cell? ⟨b, o, none⟩ = w.cell? ⟨b, o, none⟩ := World.cell?_of_block (h.block b hb hn)
theorem InkOwn.chg {w w' : World} {lo hi lo' hi' : Nat} {v : Value} {S : List St} (h : InkOwn w lo hi v S) (hc : Chg lo' hi' w w') (hd : hi ≤ lo' ∨ hi' ≤ lo) : InkOwn w' lo hi v S :=
  h.keep fun k h1 h2 h3 => hc.block k h3 (by omega)
end Go.Proofs.YtinlhigpmchiaaaGreatDoor
namespace Go.Proofs.YtinlhigpmchiaaaGreatDoor
set_option linter.unusedSimpArgs false
set_option linter.unusedVariables false
set_option maxRecDepth 20000
open Go.RowKit
open Go.ChangeShapes Go.WideShapes Go.Deep Go.Joins

/-- the points of the first k strokes -/
def sumL (S : List St) : Nat → Nat
  | 0 => 0
  | k + 1 => sumL S k + (S.getD k default).l.length
theorem sumL_next {S : List St} {k : Nat} (h : k < S.length) : sumL S (k + 1) = sumL S k + S[k].l.length := by rw [sumL]; simp [List.getD_eq_getElem?_getD, List.getElem?_eq_getElem h]
theorem sumL_mono (S : List St) {j k : Nat} (h : j ≤ k) : sumL S j ≤ sumL S k := by
  induction k with
  | zero => obtain rfl : j = 0 := by omega
            exact Nat.le_refl _
  | succ k ih =>
    rcases Nat.lt_or_ge k j with h1 | h1
    · obtain rfl : j = k + 1 := by omega
      exact Nat.le_refl _
    · have := ih h1
      rw [sumL]; omega
theorem sumL_at {S : List St} {k : Nat} (h : k < S.length) : S[k].l.length ≤ sumL S S.length := by
  have h1 := sumL_mono S (show k + 1 ≤ S.length from h)
  rw [sumL_next h] at h1
  omega
/-- it fits -/
def fitK (S : List St) (left : Nat) : Prop := S.length + sumL S S.length ≤ left
theorem ptsOf_len (S : List St) : (ptsOf S).length = S.length := by simp [ptsOf]
theorem ptsOf_at {S T : List St} (h : ptsOf S = ptsOf T) {k : Nat} (hk : k < S.length) (hk2 : k < T.length) : T[k].l = S[k].l := by
  have h1 : (ptsOf S)[k]? = (ptsOf T)[k]? := by rw [h]
  simp only [ptsOf, List.getElem?_map, List.getElem?_eq_getElem hk, List.getElem?_eq_getElem hk2, Option.map_some, Option.some.injEq] at h1
  exact h1.symm

set_option maxHeartbeats 4000000 in
theorem eqStrokeS_same (A B : Option Addr) (n c d : Nat) (S T : List St) (w : World) (ha : InkRd w A n S) (hb : InkRd w B n T) (hp : ptsOf S = ptsOf T) (hs : ∀ s ∈ S, s.l.length ≤ 1048576) (hn : n ≤ 1048576) :
    Calls Tryz.prog 22 #[.slice A n c, .slice B n d] w fun e w' => e = .returned (.bool true) ∧ Below w.heap.size w w' := by
  have HA := Lib.hid ha
  have HD := Lib.hid hb
  have LA := Lib.hid ha.len
  have LD := Lib.hid hb.len
  have HP := Lib.hid hp
  clear ha hb hp
  go_enter Tryz.func22, Tryz.ntmps22
  go_wp2_with fail
  go_loopw [5] (fun i wr => ∃ k : Nat, k ≤ n ∧ i = .int .i64 k ∧ Below w.heap.size w wr) (fun i _ => n - (intOf i).toNat)
  case atStart => exact ⟨0, Nat.zero_le _, rfl, Below.refl _ _⟩
  case round =>
    obtain ⟨k, hk, rfl, hW⟩ := hrel
    have hWs := hW.size
    by_cases hlt : k < n
    · have ka : k < S.length := by have := LA.out; omega
      have kb : k < T.length := by have := LD.out; omega
      obtain ⟨b1, o1, rfl, l1, c1, p1⟩ := (HA.out.below hW).at ka
      obtain ⟨b2, o2, rfl, l2, c2, p2⟩ := (HD.out.below hW).at kb
      have hsl := hs _ (List.getElem_mem ka)
      rw [ptsOf_at HP.out ka kb] at c2 p2
      have P1 := Lib.hid p1
      have P2 := Lib.hid p2
      clear p1 p2
      go_wp2_with fail
      refine wp_region_held_drew (S := (fun w' => (∀ kb ko, kb < wr.heap.size → w'.cell? ⟨kb, ko, none⟩ = wr.cell? ⟨kb, ko, none⟩) ∧ wr.heap.size ≤ w'.heap.size ∧ Below wr.heap.size wr w')) (by kernel_rfl) ?_ (fun hHeld => ?_)
      · (try dsimp only); (first | exact SB.mk hkB | exact SB.mk ((Below.refl _ _).drew) | (go_split_ands; refine SB.mk (Below.drew ?_); assumption) | (refine SB.mk ?_; go_grown; done) | (go_split_ands; refine SB.mk ?_; go_grown; done))
      first | (refine take_on (i := 0) (v := ?_) rfl (by kernel_rfl) (by kernel_rfl) (by kernel_rfl) (fun _ _ _ h => h) rfl ?_ (by assumption) ?_; rotate_left; · (intro w' hSw; (try dsimp only at hSw); go_simp; (try with_reducible rfl))) | (refine take_off (i := 0) rfl (by kernel_rfl) (by kernel_rfl) (by kernel_rfl) (fun _ _ _ h => h) rfl (by assumption) ?_)
      (try simp only [Act.put, List.setIfInBounds_toArray, List.set_cons_zero, List.set_cons_succ])
      first | (refine take_on (i := 1) (v := ?_) rfl (by kernel_rfl) (by kernel_rfl) (by kernel_rfl) (fun _ _ _ h => h) rfl ?_ (by assumption) ?_; rotate_left; · (intro w' hSw; (try dsimp only at hSw); go_simp; (try with_reducible rfl))) | (refine take_off (i := 1) rfl (by kernel_rfl) (by kernel_rfl) (by kernel_rfl) (fun _ _ _ h => h) rfl (by assumption) ?_)
      (try simp only [Act.put, List.setIfInBounds_toArray, List.set_cons_zero, List.set_cons_succ])
      first | (refine take_on (i := 2) (v := ?_) rfl (by kernel_rfl) (by kernel_rfl) (by kernel_rfl) (fun _ _ _ h => h) rfl ?_ (by assumption) ?_; rotate_left; · (intro w' hSw; (try dsimp only at hSw); go_simp; (try with_reducible rfl))) | (refine take_off (i := 2) rfl (by kernel_rfl) (by kernel_rfl) (by kernel_rfl) (fun _ _ _ h => h) rfl (by assumption) ?_)
      (try simp only [Act.put, List.setIfInBounds_toArray, List.set_cons_zero, List.set_cons_succ])
      first | (refine take_on (i := 3) (v := ?_) rfl (by kernel_rfl) (by kernel_rfl) (by kernel_rfl) (fun _ _ _ h => h) rfl ?_ (by assumption) ?_; rotate_left; · (intro w' hSw; (try dsimp only at hSw); go_simp; (try with_reducible rfl))) | (refine take_off (i := 3) rfl (by kernel_rfl) (by kernel_rfl) (by kernel_rfl) (fun _ _ _ h => h) rfl (by assumption) ?_)
      (try simp only [Act.put, List.setIfInBounds_toArray, List.set_cons_zero, List.set_cons_succ])
      first | (refine take_on (i := 4) (v := ?_) rfl (by kernel_rfl) (by kernel_rfl) (by kernel_rfl) (fun _ _ _ h => h) rfl ?_ (by assumption) ?_; rotate_left; · (intro w' hSw; (try dsimp only at hSw); go_simp; (try with_reducible rfl))) | (refine take_off (i := 4) rfl (by kernel_rfl) (by kernel_rfl) (by kernel_rfl) (fun _ _ _ h => h) rfl (by assumption) ?_)
      (try simp only [Act.put, List.setIfInBounds_toArray, List.set_cons_zero, List.set_cons_succ])
      first | (refine take_on (i := 5) (v := ?_) rfl (by kernel_rfl) (by kernel_rfl) (by kernel_rfl) (fun _ _ _ h => h) rfl ?_ (by assumption) ?_; rotate_left; · (intro w' hSw; (try dsimp only at hSw); go_simp; (try with_reducible rfl))) | (refine take_off (i := 5) rfl (by kernel_rfl) (by kernel_rfl) (by kernel_rfl) (fun _ _ _ h => h) rfl (by assumption) ?_)
      (try simp only [Act.put, List.setIfInBounds_toArray, List.set_cons_zero, List.set_cons_succ])
      first | (refine take_on (i := 6) (v := ?_) rfl (by kernel_rfl) (by kernel_rfl) (by kernel_rfl) (fun _ _ _ h => h) rfl ?_ (by assumption) ?_; rotate_left; · (intro w' hSw; (try dsimp only at hSw); go_simp; (try with_reducible rfl))) | (refine take_off (i := 6) rfl (by kernel_rfl) (by kernel_rfl) (by kernel_rfl) (fun _ _ _ h => h) rfl (by assumption) ?_)
      (try simp only [Act.put, List.setIfInBounds_toArray, List.set_cons_zero, List.set_cons_succ])
      first | (refine take_on (i := 7) (v := ?_) rfl (by kernel_rfl) (by kernel_rfl) (by kernel_rfl) (fun _ _ _ h => h) rfl ?_ (by assumption) ?_; rotate_left; · (intro w' hSw; (try dsimp only at hSw); go_simp; (try with_reducible rfl))) | (refine take_off (i := 7) rfl (by kernel_rfl) (by kernel_rfl) (by kernel_rfl) (fun _ _ _ h => h) rfl (by assumption) ?_)
      (try simp only [Act.put, List.setIfInBounds_toArray, List.set_cons_zero, List.set_cons_succ])
      refine wpAnyH_ready (rs := [8]) (by kernel_rfl) (by simp) ?_
      refine AllReadyH.cons rfl (fun K hK => ?_) AllReadyH.nil
      rw [if_pos (by rfl)]
      go_simp
      first | (go_at_call 47; (with_reducible refine (eqStroke_same S[k].A T[k].A S[k].l.length S[k].c T[k].c S[k].l _ (by first | exact P1.out | exact P1.out.drew) (by first | exact P2.out | exact P2.out.drew) rfl hsl).mono ?_); rintro e w' ⟨rfl, hb⟩; obtain ⟨_, hks, hkB⟩ := SB.next (by assumption) hb; obtain ⟨hkc, hkf⟩ := bcell hb; have hkz := hb.size; (try simp only [World.size_alloc, World.size_drew] at hkz); (first | (have hkt := Nat.lt_of_succ_le hkz) | (have hkt := Nat.lt_of_lt_of_le (by assumption) hkz) | skip); clear hb)
      refine hK.out _ _ ?_ (fun hHeld2 => ?_)
      · (try dsimp only); (first | exact SB.mk hkB | exact SB.mk ((Below.refl _ _).drew) | (go_split_ands; refine SB.mk (Below.drew ?_); assumption) | (refine SB.mk ?_; go_grown; done) | (go_split_ands; refine SB.mk ?_; go_grown; done))
      clear hK K hHeld; have hHeld := hHeld2; clear hHeld2; (try simp only [Act.put, List.setIfInBounds_toArray, List.set_cons_zero, List.set_cons_succ])
      first | (refine take_on (i := 9) (v := ?_) rfl (by kernel_rfl) (by kernel_rfl) (by kernel_rfl) (fun _ _ _ h => h) rfl ?_ (by assumption) ?_; rotate_left; · (intro w' hSw; (try dsimp only at hSw); go_simp; (try with_reducible rfl))) | (refine take_off (i := 9) rfl (by kernel_rfl) (by kernel_rfl) (by kernel_rfl) (fun _ _ _ h => h) rfl (by assumption) ?_)
      (try simp only [Act.put, List.setIfInBounds_toArray, List.set_cons_zero, List.set_cons_succ])
      refine wpAnyH_done (by kernel_rfl) ?_ _
      go_split_ands
      go_wp2_with fail
      go_roundw
      case rel => exact ⟨k + 1, by omega, by go_num, Below.next hW (by assumption)⟩
      case measure => simp [intOf]; omega
    · go_wp2_with fail
      go_ret
      exact ⟨rfl, hW⟩
theorem eqInk_same (A B : Option Addr) (n c d : Nat) (S T : List St) (w : World) (ha : InkRd w A n S) (hb : InkRd w B n T) (hp : ptsOf S = ptsOf T) (hs : ∀ s ∈ S, s.l.length ≤ 1048576) (hn : n ≤ 1048576) :
    Calls Tryz.prog 6 #[.agg #[.slice A n c], .agg #[.slice B n d]] w fun e w' => e = .returned (.bool true) ∧ Below w.heap.size w w' := by
  have HA := Lib.hid ((ha.alloc (.cells #[.slice A n c] 24)).alloc (.cells #[.slice B n d] 24))
  have HD := Lib.hid ((hb.alloc (.cells #[.slice A n c] 24)).alloc (.cells #[.slice B n d] 24))
  have HP := Lib.hid hp
  clear ha hb hp
  go_enter Tryz.func6, Tryz.ntmps6
  go_wp2_with fail
  refine (eqStrokeS_same A B n c d S T _ HA.out HD.out HP.out hs hn).mono ?_
  rintro e w2 ⟨rfl, hb2⟩
  have hB : Below w.heap.size w w2 := Below.next (by go_grown) hb2
  clear hb2 HA HD
  go_wp2_with fail
  go_ret
  exact ⟨rfl, hB⟩

end Go.Proofs.YtinlhigpmchiaaaGreatDoor
namespace Go.Proofs.YtinlhigpmchiaaaGreatDoor
set_option linter.unusedSimpArgs false
set_option linter.unusedVariables false
set_option maxRecDepth 20000
open Go.RowKit

/-- every point is one that may be, and times go up -/
def okAll (l : List Pt) : Bool := decide (∀ j : Fin l.length, ptB l[j.1] = true ∧ (0 < j.1 → (l[j.1 - 1]'(by omega)).t < l[j.1].t))
def strB (l : List Pt) : Bool := okAll l && (decide (1 ≤ l.length) && decide (l.length ≤ 60))
def okTo (l : List Pt) (k : Nat) : Prop := ∀ (j : Nat) (h : j < l.length), j < k → ptB l[j] = true ∧ (0 < j → (l[j - 1]'(by omega)).t < l[j].t)
theorem okAll_true {l : List Pt} {k : Nat} (h : okTo l k) (hk : l.length ≤ k) : okAll l = true := decide_eq_true fun j => h j.1 j.2 (Nat.lt_of_lt_of_le j.2 hk)
theorem okAll_pt {l : List Pt} {k : Nat} (hk : k < l.length) (h : ptB l[k] = false) : okAll l = false := decide_eq_false fun H => by
  have := (H ⟨k, hk⟩).1
  simp [h] at this
theorem okAll_t {l : List Pt} {k : Nat} (hk : k < l.length) (h0 : 0 < k) (h : ¬ (l[k - 1]'(by omega)).t < l[k].t) : okAll l = false := decide_eq_false fun H => h ((H ⟨k, hk⟩).2 h0)
theorem okTo_next {l : List Pt} {k : Nat} (h : okTo l k) (hk : k < l.length) (h1 : ptB l[k] = true) (h2 : 0 < k → (l[k - 1]'(by omega)).t < l[k].t) : okTo l (k + 1) := fun j hj hlt => by
  rcases Nat.lt_or_ge j k with hjk | hjk
  · exact h j hj hjk
  · obtain rfl : j = k := by omega
    exact ⟨h1, h2⟩
theorem strB_true {l : List Pt} (h : strB l = true) : 1 ≤ l.length ∧ l.length ≤ 60 ∧ (∀ (j : Nat) (hj : j < l.length), ptB l[j] = true) ∧ (∀ (j : Nat) (hj : j < l.length), 0 < j → (l[j - 1]'(by omega)).t < l[j].t) := by
  simp only [strB, okAll, Bool.and_eq_true, decide_eq_true_eq] at h
  exact ⟨h.2.1, h.2.2, fun j hj => (h.1 ⟨j, hj⟩).1, fun j hj h0 => (h.1 ⟨j, hj⟩).2 h0⟩

theorem block_lt_of_cell {w : World} {b o : Nat} {v : Value} (h : w.cell? ⟨b, o, none⟩ = some v) : b < w.heap.size := World.block_lt_of_cell? w _ h
theorem strB_no {l : List Pt} (h : okAll l = false) : false = strB l := by rw [strB, h, Bool.false_and]
theorem strB_len {l : List Pt} {n : Nat} (h : okAll l = true) (hl : l.length = n) : (decide (1 ≤ n) && decide (n ≤ 60)) = strB l := by rw [strB, h, Bool.true_and, hl]
theorem iValidPoint_of {p : Pt} {v : Bool} (h : Hid (ptB p = v)) (w : World) :
    Calls Tryz.prog 60 #[.agg #[.int .i64 p.x, .int .i64 p.y, .int .i64 p.t]] w fun e w' => e = .returned (.bool v) ∧ Below w.heap.size w w' := by
  rw [← h.out]
  exact iValidPoint p w
theorem l02Point_of {p : Pt} {v : Bool} (h : Hid (ptB p = v)) (w : World) :
    Calls Tryz.prog 52 #[.agg #[.int .i64 p.x, .int .i64 p.y, .int .i64 p.t]] w fun e w' => e = .returned (.bool v) ∧ Below w.heap.size w w' := by
  rw [← h.out]
  exact l02Point_any p w

set_option maxHeartbeats 4000000 in
theorem validStroke_any (A : Option Addr) (n c : Nat) (xs : List Pt) (w : World) (ha : Rd w A n 3 (rowOf ptC xs)) (la : xs.length = n) (hn : n ≤ 1048576) :
    Calls Tryz.prog 39 #[.agg #[.slice A n c]] w fun e w' => e = .returned (.bool (strB xs)) ∧ Below w.heap.size w w' := by
  have HA := Lib.hid ha
  have LA := Lib.hid la
  clear ha la
  go_enter Tryz.func39, Tryz.ntmps39
  go_wp2_with fail
  go_loopw [8] (fun i wr => ∃ k : Nat, k ≤ n ∧ i = .int .i64 k ∧ Hid (okTo xs k) ∧ Below (w.heap.size + 1) (w.alloc (.cells #[.slice A n c] 38)) wr) (fun i _ => n - (intOf i).toNat)
  case atStart => exact ⟨0, Nat.zero_le _, rfl, fun j h hlt => absurd hlt (by omega), Below.refl _ _⟩
  case round =>
    obtain ⟨k, hk, rfl, hto, hB⟩ := hrel
    have hcs : wr.cell? ⟨w.heap.size, 0, none⟩ = some (.slice A n c) := (hB.cell (p := ⟨w.heap.size, 0, none⟩) (by simp)).trans (by go_simp)
    have hws : w.heap.size < wr.heap.size := by have := hB.size; simp at this; omega
    have hW : Below w.heap.size w wr := ((Below.refl w.heap.size w).alloc (Nat.le_refl _) _).trans (hB.mono (by omega))
    by_cases hlt : k < n
    · have ka : k < xs.length := by have := LA.out; omega
      obtain ⟨b1, o1, rfl, l1, c1, c2, c3⟩ := (HA.out.below hW).pt LA.out ka
      cases e1 : ptB xs[k]
      · have hno : Hid (okAll xs = false) := okAll_pt ka e1
        have E1 : Hid (ptB xs[k] = false) := e1
        clear e1
        go_wp2_with fail
        refine wp_region_held_drew (S := (fun w' => (∀ kb ko, kb < (wr.alloc (.cells #[.int .i64 xs[k].x, .int .i64 xs[k].y, .int .i64 xs[k].t] 58)).heap.size → w'.cell? ⟨kb, ko, none⟩ = (wr.alloc (.cells #[.int .i64 xs[k].x, .int .i64 xs[k].y, .int .i64 xs[k].t] 58)).cell? ⟨kb, ko, none⟩) ∧ (wr.alloc (.cells #[.int .i64 xs[k].x, .int .i64 xs[k].y, .int .i64 xs[k].t] 58)).heap.size ≤ w'.heap.size ∧ Below (wr.alloc (.cells #[.int .i64 xs[k].x, .int .i64 xs[k].y, .int .i64 xs[k].t] 58)).heap.size (wr.alloc (.cells #[.int .i64 xs[k].x, .int .i64 xs[k].y, .int .i64 xs[k].t] 58)) w')) (by kernel_rfl) ?_ (fun hHeld => ?_)
        · (try dsimp only); (first | exact SB.mk hkB | exact SB.mk ((Below.refl _ _).drew) | (go_split_ands; refine SB.mk (Below.drew ?_); assumption) | (refine SB.mk ?_; go_grown; done) | (go_split_ands; refine SB.mk ?_; go_grown; done))
        first | (refine take_on (i := 0) (v := ?_) rfl (by kernel_rfl) (by kernel_rfl) (by kernel_rfl) (fun _ _ _ h => h) rfl ?_ (by assumption) ?_; rotate_left; · (intro w' hSw; (try dsimp only at hSw); go_simp; (try with_reducible rfl))) | (refine take_off (i := 0) rfl (by kernel_rfl) (by kernel_rfl) (by kernel_rfl) (fun _ _ _ h => h) rfl (by assumption) ?_)
        (try simp only [Act.put, List.setIfInBounds_toArray, List.set_cons_zero, List.set_cons_succ])
        refine wpAnyH_ready (rs := [1]) (by kernel_rfl) (by simp) ?_
        refine AllReadyH.cons rfl (fun K hK => ?_) AllReadyH.nil
        rw [if_pos (by rfl)]
        go_simp
        first | (go_at_call 60; (with_reducible refine (iValidPoint_of E1 _).mono ?_); rintro e w' ⟨rfl, hb⟩; obtain ⟨_, hks, hkB⟩ := SB.next (by assumption) hb; obtain ⟨hkc, hkf⟩ := bcell hb; have hkz := hb.size; (try simp only [World.size_alloc, World.size_drew] at hkz); (first | (have hkt := Nat.lt_of_succ_le hkz) | (have hkt := Nat.lt_of_lt_of_le (by assumption) hkz) | skip); clear hb)
        refine hK.out _ _ ?_ (fun hHeld2 => ?_)
        · (try dsimp only); (first | exact SB.mk hkB | exact SB.mk ((Below.refl _ _).drew) | (go_split_ands; refine SB.mk (Below.drew ?_); assumption) | (refine SB.mk ?_; go_grown; done) | (go_split_ands; refine SB.mk ?_; go_grown; done))
        clear hK K hHeld; have hHeld := hHeld2; clear hHeld2; (try simp only [Act.put, List.setIfInBounds_toArray, List.set_cons_zero, List.set_cons_succ])
        first | (refine take_on (i := 2) (v := ?_) rfl (by kernel_rfl) (by kernel_rfl) (by kernel_rfl) (fun _ _ _ h => h) rfl ?_ (by assumption) ?_; rotate_left; · (intro w' hSw; (try dsimp only at hSw); go_simp; (try with_reducible rfl))) | (refine take_off (i := 2) rfl (by kernel_rfl) (by kernel_rfl) (by kernel_rfl) (fun _ _ _ h => h) rfl (by assumption) ?_)
        (try simp only [Act.put, List.setIfInBounds_toArray, List.set_cons_zero, List.set_cons_succ])
        first | (refine take_on (i := 3) (v := ?_) rfl (by kernel_rfl) (by kernel_rfl) (by kernel_rfl) (fun _ _ _ h => h) rfl ?_ (by assumption) ?_; rotate_left; · (intro w' hSw; (try dsimp only at hSw); go_simp; (try with_reducible rfl))) | (refine take_off (i := 3) rfl (by kernel_rfl) (by kernel_rfl) (by kernel_rfl) (fun _ _ _ h => h) rfl (by assumption) ?_)
        (try simp only [Act.put, List.setIfInBounds_toArray, List.set_cons_zero, List.set_cons_succ])
        first | (refine take_on (i := 4) (v := ?_) rfl (by kernel_rfl) (by kernel_rfl) (by kernel_rfl) (fun _ _ _ h => h) rfl ?_ (by assumption) ?_; rotate_left; · (intro w' hSw; (try dsimp only at hSw); go_simp; (try with_reducible rfl))) | (refine take_off (i := 4) rfl (by kernel_rfl) (by kernel_rfl) (by kernel_rfl) (fun _ _ _ h => h) rfl (by assumption) ?_)
        (try simp only [Act.put, List.setIfInBounds_toArray, List.set_cons_zero, List.set_cons_succ])
        first | (refine take_on (i := 5) (v := ?_) rfl (by kernel_rfl) (by kernel_rfl) (by kernel_rfl) (fun _ _ _ h => h) rfl ?_ (by assumption) ?_; rotate_left; · (intro w' hSw; (try dsimp only at hSw); go_simp; (try with_reducible rfl))) | (refine take_off (i := 5) rfl (by kernel_rfl) (by kernel_rfl) (by kernel_rfl) (fun _ _ _ h => h) rfl (by assumption) ?_)
        (try simp only [Act.put, List.setIfInBounds_toArray, List.set_cons_zero, List.set_cons_succ])
        first | (refine take_on (i := 6) (v := ?_) rfl (by kernel_rfl) (by kernel_rfl) (by kernel_rfl) (fun _ _ _ h => h) rfl ?_ (by assumption) ?_; rotate_left; · (intro w' hSw; (try dsimp only at hSw); go_simp; (try with_reducible rfl))) | (refine take_off (i := 6) rfl (by kernel_rfl) (by kernel_rfl) (by kernel_rfl) (fun _ _ _ h => h) rfl (by assumption) ?_)
        (try simp only [Act.put, List.setIfInBounds_toArray, List.set_cons_zero, List.set_cons_succ])
        first | (refine take_on (i := 7) (v := ?_) rfl (by kernel_rfl) (by kernel_rfl) (by kernel_rfl) (fun _ _ _ h => h) rfl ?_ (by assumption) ?_; rotate_left; · (intro w' hSw; (try dsimp only at hSw); go_simp; (try with_reducible rfl))) | (refine take_off (i := 7) rfl (by kernel_rfl) (by kernel_rfl) (by kernel_rfl) (fun _ _ _ h => h) rfl (by assumption) ?_)
        (try simp only [Act.put, List.setIfInBounds_toArray, List.set_cons_zero, List.set_cons_succ])
        first | (refine take_on (i := 8) (v := ?_) rfl (by kernel_rfl) (by kernel_rfl) (by kernel_rfl) (fun _ _ _ h => h) rfl ?_ (by assumption) ?_; rotate_left; · (intro w' hSw; (try dsimp only at hSw); go_simp; (try with_reducible rfl))) | (refine take_off (i := 8) rfl (by kernel_rfl) (by kernel_rfl) (by kernel_rfl) (fun _ _ _ h => h) rfl (by assumption) ?_)
        (try simp only [Act.put, List.setIfInBounds_toArray, List.set_cons_zero, List.set_cons_succ])
        first | (refine take_on (i := 9) (v := ?_) rfl (by kernel_rfl) (by kernel_rfl) (by kernel_rfl) (fun _ _ _ h => h) rfl ?_ (by assumption) ?_; rotate_left; · (intro w' hSw; (try dsimp only at hSw); go_simp; (try with_reducible rfl))) | (refine take_off (i := 9) rfl (by kernel_rfl) (by kernel_rfl) (by kernel_rfl) (fun _ _ _ h => h) rfl (by assumption) ?_)
        (try simp only [Act.put, List.setIfInBounds_toArray, List.set_cons_zero, List.set_cons_succ])
        first | (refine take_on (i := 10) (v := ?_) rfl (by kernel_rfl) (by kernel_rfl) (by kernel_rfl) (fun _ _ _ h => h) rfl ?_ (by assumption) ?_; rotate_left; · (intro w' hSw; (try dsimp only at hSw); go_simp; (try with_reducible rfl))) | (refine take_off (i := 10) rfl (by kernel_rfl) (by kernel_rfl) (by kernel_rfl) (fun _ _ _ h => h) rfl (by assumption) ?_)
        (try simp only [Act.put, List.setIfInBounds_toArray, List.set_cons_zero, List.set_cons_succ])
        first | (refine take_on (i := 11) (v := ?_) rfl (by kernel_rfl) (by kernel_rfl) (by kernel_rfl) (fun _ _ _ h => h) rfl ?_ (by assumption) ?_; rotate_left; · (intro w' hSw; (try dsimp only at hSw); go_simp; (try with_reducible rfl))) | (refine take_off (i := 11) rfl (by kernel_rfl) (by kernel_rfl) (by kernel_rfl) (fun _ _ _ h => h) rfl (by assumption) ?_)
        (try simp only [Act.put, List.setIfInBounds_toArray, List.set_cons_zero, List.set_cons_succ])
        first | (refine take_on (i := 12) (v := ?_) rfl (by kernel_rfl) (by kernel_rfl) (by kernel_rfl) (fun _ _ _ h => h) rfl ?_ (by assumption) ?_; rotate_left; · (intro w' hSw; (try dsimp only at hSw); go_simp; (try with_reducible rfl))) | (refine take_off (i := 12) rfl (by kernel_rfl) (by kernel_rfl) (by kernel_rfl) (fun _ _ _ h => h) rfl (by assumption) ?_)
        (try simp only [Act.put, List.setIfInBounds_toArray, List.set_cons_zero, List.set_cons_succ])
        first | (refine take_on (i := 13) (v := ?_) rfl (by kernel_rfl) (by kernel_rfl) (by kernel_rfl) (fun _ _ _ h => h) rfl ?_ (by assumption) ?_; rotate_left; · (intro w' hSw; (try dsimp only at hSw); go_simp; (try with_reducible rfl))) | (refine take_off (i := 13) rfl (by kernel_rfl) (by kernel_rfl) (by kernel_rfl) (fun _ _ _ h => h) rfl (by assumption) ?_)
        (try simp only [Act.put, List.setIfInBounds_toArray, List.set_cons_zero, List.set_cons_succ])
        first | (refine take_on (i := 14) (v := ?_) rfl (by kernel_rfl) (by kernel_rfl) (by kernel_rfl) (fun _ _ _ h => h) rfl ?_ (by assumption) ?_; rotate_left; · (intro w' hSw; (try dsimp only at hSw); go_simp; (try with_reducible rfl))) | (refine take_off (i := 14) rfl (by kernel_rfl) (by kernel_rfl) (by kernel_rfl) (fun _ _ _ h => h) rfl (by assumption) ?_)
        (try simp only [Act.put, List.setIfInBounds_toArray, List.set_cons_zero, List.set_cons_succ])
        first | (refine take_on (i := 15) (v := ?_) rfl (by kernel_rfl) (by kernel_rfl) (by kernel_rfl) (fun _ _ _ h => h) rfl ?_ (by assumption) ?_; rotate_left; · (intro w' hSw; (try dsimp only at hSw); go_simp; (try with_reducible rfl))) | (refine take_off (i := 15) rfl (by kernel_rfl) (by kernel_rfl) (by kernel_rfl) (fun _ _ _ h => h) rfl (by assumption) ?_)
        (try simp only [Act.put, List.setIfInBounds_toArray, List.set_cons_zero, List.set_cons_succ])
        first | (refine take_on (i := 16) (v := ?_) rfl (by kernel_rfl) (by kernel_rfl) (by kernel_rfl) (fun _ _ _ h => h) rfl ?_ (by assumption) ?_; rotate_left; · (intro w' hSw; (try dsimp only at hSw); go_simp; (try with_reducible rfl))) | (refine take_off (i := 16) rfl (by kernel_rfl) (by kernel_rfl) (by kernel_rfl) (fun _ _ _ h => h) rfl (by assumption) ?_)
        (try simp only [Act.put, List.setIfInBounds_toArray, List.set_cons_zero, List.set_cons_succ])
        first | (refine take_on (i := 17) (v := ?_) rfl (by kernel_rfl) (by kernel_rfl) (by kernel_rfl) (fun _ _ _ h => h) rfl ?_ (by assumption) ?_; rotate_left; · (intro w' hSw; (try dsimp only at hSw); go_simp; (try with_reducible rfl))) | (refine take_off (i := 17) rfl (by kernel_rfl) (by kernel_rfl) (by kernel_rfl) (fun _ _ _ h => h) rfl (by assumption) ?_)
        (try simp only [Act.put, List.setIfInBounds_toArray, List.set_cons_zero, List.set_cons_succ])
        first | (refine take_on (i := 18) (v := ?_) rfl (by kernel_rfl) (by kernel_rfl) (by kernel_rfl) (fun _ _ _ h => h) rfl ?_ (by assumption) ?_; rotate_left; · (intro w' hSw; (try dsimp only at hSw); go_simp; (try with_reducible rfl))) | (refine take_off (i := 18) rfl (by kernel_rfl) (by kernel_rfl) (by kernel_rfl) (fun _ _ _ h => h) rfl (by assumption) ?_)
        (try simp only [Act.put, List.setIfInBounds_toArray, List.set_cons_zero, List.set_cons_succ])
        refine wpAnyH_done (by kernel_rfl) ?_ _
        go_split_ands
        go_wp2_with fail
        go_ret
        exact ⟨ret_bool (strB_no hno.out), hW.trans ((Below.mono (Below.next ((Below.refl wr.heap.size wr).alloc (Nat.le_refl _) _) (by assumption))) (by omega))⟩
      · have E1 : Hid (ptB xs[k] = true) := e1
        rcases k with _ | j
        · have hto2 : Hid (okTo xs 1) := okTo_next hto.out ka e1 (fun h => absurd h (by omega))
          clear e1
          simp only [Nat.zero_mul, Nat.add_zero] at c1 c2 c3
          go_wp2_with fail
          refine wp_region_held_drew (S := (fun w' => (∀ kb ko, kb < (wr.alloc (.cells #[.int .i64 xs[0].x, .int .i64 xs[0].y, .int .i64 xs[0].t] 58)).heap.size → w'.cell? ⟨kb, ko, none⟩ = (wr.alloc (.cells #[.int .i64 xs[0].x, .int .i64 xs[0].y, .int .i64 xs[0].t] 58)).cell? ⟨kb, ko, none⟩) ∧ (wr.alloc (.cells #[.int .i64 xs[0].x, .int .i64 xs[0].y, .int .i64 xs[0].t] 58)).heap.size ≤ w'.heap.size ∧ Below (wr.alloc (.cells #[.int .i64 xs[0].x, .int .i64 xs[0].y, .int .i64 xs[0].t] 58)).heap.size (wr.alloc (.cells #[.int .i64 xs[0].x, .int .i64 xs[0].y, .int .i64 xs[0].t] 58)) w')) (by kernel_rfl) ?_ (fun hHeld => ?_)
          · (try dsimp only); (first | exact SB.mk hkB | exact SB.mk ((Below.refl _ _).drew) | (go_split_ands; refine SB.mk (Below.drew ?_); assumption) | (refine SB.mk ?_; go_grown; done) | (go_split_ands; refine SB.mk ?_; go_grown; done))
          first | (refine take_on (i := 0) (v := ?_) rfl (by kernel_rfl) (by kernel_rfl) (by kernel_rfl) (fun _ _ _ h => h) rfl ?_ (by assumption) ?_; rotate_left; · (intro w' hSw; (try dsimp only at hSw); go_simp; (try with_reducible rfl))) | (refine take_off (i := 0) rfl (by kernel_rfl) (by kernel_rfl) (by kernel_rfl) (fun _ _ _ h => h) rfl (by assumption) ?_)
          (try simp only [Act.put, List.setIfInBounds_toArray, List.set_cons_zero, List.set_cons_succ])
          refine wpAnyH_ready (rs := [1]) (by kernel_rfl) (by simp) ?_
          refine AllReadyH.cons rfl (fun K hK => ?_) AllReadyH.nil
          rw [if_pos (by rfl)]
          go_simp
          first | (go_at_call 60; (with_reducible refine (iValidPoint_of E1 _).mono ?_); rintro e w' ⟨rfl, hb⟩; obtain ⟨_, hks, hkB⟩ := SB.next (by assumption) hb; obtain ⟨hkc, hkf⟩ := bcell hb; have hkz := hb.size; (try simp only [World.size_alloc, World.size_drew] at hkz); (first | (have hkt := Nat.lt_of_succ_le hkz) | (have hkt := Nat.lt_of_lt_of_le (by assumption) hkz) | skip); clear hb)
          refine hK.out _ _ ?_ (fun hHeld2 => ?_)
          · (try dsimp only); (first | exact SB.mk hkB | exact SB.mk ((Below.refl _ _).drew) | (go_split_ands; refine SB.mk (Below.drew ?_); assumption) | (refine SB.mk ?_; go_grown; done) | (go_split_ands; refine SB.mk ?_; go_grown; done))
          clear hK K hHeld; have hHeld := hHeld2; clear hHeld2; (try simp only [Act.put, List.setIfInBounds_toArray, List.set_cons_zero, List.set_cons_succ])
          first | (refine take_on (i := 2) (v := ?_) rfl (by kernel_rfl) (by kernel_rfl) (by kernel_rfl) (fun _ _ _ h => h) rfl ?_ (by assumption) ?_; rotate_left; · (intro w' hSw; (try dsimp only at hSw); go_simp; (try with_reducible rfl))) | (refine take_off (i := 2) rfl (by kernel_rfl) (by kernel_rfl) (by kernel_rfl) (fun _ _ _ h => h) rfl (by assumption) ?_)
          (try simp only [Act.put, List.setIfInBounds_toArray, List.set_cons_zero, List.set_cons_succ])
          first | (refine take_on (i := 3) (v := ?_) rfl (by kernel_rfl) (by kernel_rfl) (by kernel_rfl) (fun _ _ _ h => h) rfl ?_ (by assumption) ?_; rotate_left; · (intro w' hSw; (try dsimp only at hSw); go_simp; (try with_reducible rfl))) | (refine take_off (i := 3) rfl (by kernel_rfl) (by kernel_rfl) (by kernel_rfl) (fun _ _ _ h => h) rfl (by assumption) ?_)
          (try simp only [Act.put, List.setIfInBounds_toArray, List.set_cons_zero, List.set_cons_succ])
          first | (refine take_on (i := 4) (v := ?_) rfl (by kernel_rfl) (by kernel_rfl) (by kernel_rfl) (fun _ _ _ h => h) rfl ?_ (by assumption) ?_; rotate_left; · (intro w' hSw; (try dsimp only at hSw); go_simp; (try with_reducible rfl))) | (refine take_off (i := 4) rfl (by kernel_rfl) (by kernel_rfl) (by kernel_rfl) (fun _ _ _ h => h) rfl (by assumption) ?_)
          (try simp only [Act.put, List.setIfInBounds_toArray, List.set_cons_zero, List.set_cons_succ])
          first | (refine take_on (i := 5) (v := ?_) rfl (by kernel_rfl) (by kernel_rfl) (by kernel_rfl) (fun _ _ _ h => h) rfl ?_ (by assumption) ?_; rotate_left; · (intro w' hSw; (try dsimp only at hSw); go_simp; (try with_reducible rfl))) | (refine take_off (i := 5) rfl (by kernel_rfl) (by kernel_rfl) (by kernel_rfl) (fun _ _ _ h => h) rfl (by assumption) ?_)
          (try simp only [Act.put, List.setIfInBounds_toArray, List.set_cons_zero, List.set_cons_succ])
          first | (refine take_on (i := 6) (v := ?_) rfl (by kernel_rfl) (by kernel_rfl) (by kernel_rfl) (fun _ _ _ h => h) rfl ?_ (by assumption) ?_; rotate_left; · (intro w' hSw; (try dsimp only at hSw); go_simp; (try with_reducible rfl))) | (refine take_off (i := 6) rfl (by kernel_rfl) (by kernel_rfl) (by kernel_rfl) (fun _ _ _ h => h) rfl (by assumption) ?_)
          (try simp only [Act.put, List.setIfInBounds_toArray, List.set_cons_zero, List.set_cons_succ])
          first | (refine take_on (i := 7) (v := ?_) rfl (by kernel_rfl) (by kernel_rfl) (by kernel_rfl) (fun _ _ _ h => h) rfl ?_ (by assumption) ?_; rotate_left; · (intro w' hSw; (try dsimp only at hSw); go_simp; (try with_reducible rfl))) | (refine take_off (i := 7) rfl (by kernel_rfl) (by kernel_rfl) (by kernel_rfl) (fun _ _ _ h => h) rfl (by assumption) ?_)
          (try simp only [Act.put, List.setIfInBounds_toArray, List.set_cons_zero, List.set_cons_succ])
          first | (refine take_on (i := 8) (v := ?_) rfl (by kernel_rfl) (by kernel_rfl) (by kernel_rfl) (fun _ _ _ h => h) rfl ?_ (by assumption) ?_; rotate_left; · (intro w' hSw; (try dsimp only at hSw); go_simp; (try with_reducible rfl))) | (refine take_off (i := 8) rfl (by kernel_rfl) (by kernel_rfl) (by kernel_rfl) (fun _ _ _ h => h) rfl (by assumption) ?_)
          (try simp only [Act.put, List.setIfInBounds_toArray, List.set_cons_zero, List.set_cons_succ])
          first | (refine take_on (i := 9) (v := ?_) rfl (by kernel_rfl) (by kernel_rfl) (by kernel_rfl) (fun _ _ _ h => h) rfl ?_ (by assumption) ?_; rotate_left; · (intro w' hSw; (try dsimp only at hSw); go_simp; (try with_reducible rfl))) | (refine take_off (i := 9) rfl (by kernel_rfl) (by kernel_rfl) (by kernel_rfl) (fun _ _ _ h => h) rfl (by assumption) ?_)
          (try simp only [Act.put, List.setIfInBounds_toArray, List.set_cons_zero, List.set_cons_succ])
          first | (refine take_on (i := 10) (v := ?_) rfl (by kernel_rfl) (by kernel_rfl) (by kernel_rfl) (fun _ _ _ h => h) rfl ?_ (by assumption) ?_; rotate_left; · (intro w' hSw; (try dsimp only at hSw); go_simp; (try with_reducible rfl))) | (refine take_off (i := 10) rfl (by kernel_rfl) (by kernel_rfl) (by kernel_rfl) (fun _ _ _ h => h) rfl (by assumption) ?_)
          (try simp only [Act.put, List.setIfInBounds_toArray, List.set_cons_zero, List.set_cons_succ])
          first | (refine take_on (i := 11) (v := ?_) rfl (by kernel_rfl) (by kernel_rfl) (by kernel_rfl) (fun _ _ _ h => h) rfl ?_ (by assumption) ?_; rotate_left; · (intro w' hSw; (try dsimp only at hSw); go_simp; (try with_reducible rfl))) | (refine take_off (i := 11) rfl (by kernel_rfl) (by kernel_rfl) (by kernel_rfl) (fun _ _ _ h => h) rfl (by assumption) ?_)
          (try simp only [Act.put, List.setIfInBounds_toArray, List.set_cons_zero, List.set_cons_succ])
          first | (refine take_on (i := 12) (v := ?_) rfl (by kernel_rfl) (by kernel_rfl) (by kernel_rfl) (fun _ _ _ h => h) rfl ?_ (by assumption) ?_; rotate_left; · (intro w' hSw; (try dsimp only at hSw); go_simp; (try with_reducible rfl))) | (refine take_off (i := 12) rfl (by kernel_rfl) (by kernel_rfl) (by kernel_rfl) (fun _ _ _ h => h) rfl (by assumption) ?_)
          (try simp only [Act.put, List.setIfInBounds_toArray, List.set_cons_zero, List.set_cons_succ])
          first | (refine take_on (i := 13) (v := ?_) rfl (by kernel_rfl) (by kernel_rfl) (by kernel_rfl) (fun _ _ _ h => h) rfl ?_ (by assumption) ?_; rotate_left; · (intro w' hSw; (try dsimp only at hSw); go_simp; (try with_reducible rfl))) | (refine take_off (i := 13) rfl (by kernel_rfl) (by kernel_rfl) (by kernel_rfl) (fun _ _ _ h => h) rfl (by assumption) ?_)
          (try simp only [Act.put, List.setIfInBounds_toArray, List.set_cons_zero, List.set_cons_succ])
          first | (refine take_on (i := 14) (v := ?_) rfl (by kernel_rfl) (by kernel_rfl) (by kernel_rfl) (fun _ _ _ h => h) rfl ?_ (by assumption) ?_; rotate_left; · (intro w' hSw; (try dsimp only at hSw); go_simp; (try with_reducible rfl))) | (refine take_off (i := 14) rfl (by kernel_rfl) (by kernel_rfl) (by kernel_rfl) (fun _ _ _ h => h) rfl (by assumption) ?_)
          (try simp only [Act.put, List.setIfInBounds_toArray, List.set_cons_zero, List.set_cons_succ])
          first | (refine take_on (i := 15) (v := ?_) rfl (by kernel_rfl) (by kernel_rfl) (by kernel_rfl) (fun _ _ _ h => h) rfl ?_ (by assumption) ?_; rotate_left; · (intro w' hSw; (try dsimp only at hSw); go_simp; (try with_reducible rfl))) | (refine take_off (i := 15) rfl (by kernel_rfl) (by kernel_rfl) (by kernel_rfl) (fun _ _ _ h => h) rfl (by assumption) ?_)
          (try simp only [Act.put, List.setIfInBounds_toArray, List.set_cons_zero, List.set_cons_succ])
          first | (refine take_on (i := 16) (v := ?_) rfl (by kernel_rfl) (by kernel_rfl) (by kernel_rfl) (fun _ _ _ h => h) rfl ?_ (by assumption) ?_; rotate_left; · (intro w' hSw; (try dsimp only at hSw); go_simp; (try with_reducible rfl))) | (refine take_off (i := 16) rfl (by kernel_rfl) (by kernel_rfl) (by kernel_rfl) (fun _ _ _ h => h) rfl (by assumption) ?_)
          (try simp only [Act.put, List.setIfInBounds_toArray, List.set_cons_zero, List.set_cons_succ])
          first | (refine take_on (i := 17) (v := ?_) rfl (by kernel_rfl) (by kernel_rfl) (by kernel_rfl) (fun _ _ _ h => h) rfl ?_ (by assumption) ?_; rotate_left; · (intro w' hSw; (try dsimp only at hSw); go_simp; (try with_reducible rfl))) | (refine take_off (i := 17) rfl (by kernel_rfl) (by kernel_rfl) (by kernel_rfl) (fun _ _ _ h => h) rfl (by assumption) ?_)
          (try simp only [Act.put, List.setIfInBounds_toArray, List.set_cons_zero, List.set_cons_succ])
          first | (refine take_on (i := 18) (v := ?_) rfl (by kernel_rfl) (by kernel_rfl) (by kernel_rfl) (fun _ _ _ h => h) rfl ?_ (by assumption) ?_; rotate_left; · (intro w' hSw; (try dsimp only at hSw); go_simp; (try with_reducible rfl))) | (refine take_off (i := 18) rfl (by kernel_rfl) (by kernel_rfl) (by kernel_rfl) (fun _ _ _ h => h) rfl (by assumption) ?_)
          (try simp only [Act.put, List.setIfInBounds_toArray, List.set_cons_zero, List.set_cons_succ])
          refine wpAnyH_done (by kernel_rfl) ?_ _
          go_split_ands
          go_wp2_with fail
          go_roundw
          case rel => exact ⟨1, by omega, by go_num, hto2, hB.trans (Below.mono (Below.next ((Below.refl wr.heap.size wr).alloc (Nat.le_refl _) _) (by assumption)) (by omega))⟩
          case measure => simp [intOf]; omega
        · have kj : j < xs.length := by omega
          obtain ⟨_, _, e0, _, _, _, c4⟩ := (HA.out.below hW).pt LA.out kj
          cases e0
          have hwr : IntKind.i64.wrap (j : Int) = (j : Int) := IntWalk.i64_in _ (by omega)
          have hj0 : (0 : Int) ≤ (j : Int) := by omega
          have hjn : (j : Int) < (n : Int) := by omega
          cases e2 : decide (xs[j + 1].t ≤ xs[j].t)
          · have hto2 : Hid (okTo xs (j + 1 + 1)) := okTo_next hto.out ka e1 (fun _ => by have := of_decide_eq_false e2; simpa using this)
            clear e1
            go_wp2_with fail
            refine wp_region_held_drew (S := (fun w' => (∀ kb ko, kb < (wr.alloc (.cells #[.int .i64 xs[j + 1].x, .int .i64 xs[j + 1].y, .int .i64 xs[j + 1].t] 58)).heap.size → w'.cell? ⟨kb, ko, none⟩ = (wr.alloc (.cells #[.int .i64 xs[j + 1].x, .int .i64 xs[j + 1].y, .int .i64 xs[j + 1].t] 58)).cell? ⟨kb, ko, none⟩) ∧ (wr.alloc (.cells #[.int .i64 xs[j + 1].x, .int .i64 xs[j + 1].y, .int .i64 xs[j + 1].t] 58)).heap.size ≤ w'.heap.size ∧ Below (wr.alloc (.cells #[.int .i64 xs[j + 1].x, .int .i64 xs[j + 1].y, .int .i64 xs[j + 1].t] 58)).heap.size (wr.alloc (.cells #[.int .i64 xs[j + 1].x, .int .i64 xs[j + 1].y, .int .i64 xs[j + 1].t] 58)) w')) (by kernel_rfl) ?_ (fun hHeld => ?_)
            · (try dsimp only); (first | exact SB.mk hkB | exact SB.mk ((Below.refl _ _).drew) | (go_split_ands; refine SB.mk (Below.drew ?_); assumption) | (refine SB.mk ?_; go_grown; done) | (go_split_ands; refine SB.mk ?_; go_grown; done))
            first | (refine take_on (i := 0) (v := ?_) rfl (by kernel_rfl) (by kernel_rfl) (by kernel_rfl) (fun _ _ _ h => h) rfl ?_ (by assumption) ?_; rotate_left; · (intro w' hSw; (try dsimp only at hSw); go_simp; (try with_reducible rfl))) | (refine take_off (i := 0) rfl (by kernel_rfl) (by kernel_rfl) (by kernel_rfl) (fun _ _ _ h => h) rfl (by assumption) ?_)
            (try simp only [Act.put, List.setIfInBounds_toArray, List.set_cons_zero, List.set_cons_succ])
            refine wpAnyH_ready (rs := [1]) (by kernel_rfl) (by simp) ?_
            refine AllReadyH.cons rfl (fun K hK => ?_) AllReadyH.nil
            rw [if_pos (by rfl)]
            go_simp
            first | (go_at_call 60; (with_reducible refine (iValidPoint_of E1 _).mono ?_); rintro e w' ⟨rfl, hb⟩; obtain ⟨_, hks, hkB⟩ := SB.next (by assumption) hb; obtain ⟨hkc, hkf⟩ := bcell hb; have hkz := hb.size; (try simp only [World.size_alloc, World.size_drew] at hkz); (first | (have hkt := Nat.lt_of_succ_le hkz) | (have hkt := Nat.lt_of_lt_of_le (by assumption) hkz) | skip); clear hb)
            refine hK.out _ _ ?_ (fun hHeld2 => ?_)
            · (try dsimp only); (first | exact SB.mk hkB | exact SB.mk ((Below.refl _ _).drew) | (go_split_ands; refine SB.mk (Below.drew ?_); assumption) | (refine SB.mk ?_; go_grown; done) | (go_split_ands; refine SB.mk ?_; go_grown; done))
            clear hK K hHeld; have hHeld := hHeld2; clear hHeld2; (try simp only [Act.put, List.setIfInBounds_toArray, List.set_cons_zero, List.set_cons_succ])
            first | (refine take_on (i := 2) (v := ?_) rfl (by kernel_rfl) (by kernel_rfl) (by kernel_rfl) (fun _ _ _ h => h) rfl ?_ (by assumption) ?_; rotate_left; · (intro w' hSw; (try dsimp only at hSw); go_simp; (try with_reducible rfl))) | (refine take_off (i := 2) rfl (by kernel_rfl) (by kernel_rfl) (by kernel_rfl) (fun _ _ _ h => h) rfl (by assumption) ?_)
            (try simp only [Act.put, List.setIfInBounds_toArray, List.set_cons_zero, List.set_cons_succ])
            first | (refine take_on (i := 3) (v := ?_) rfl (by kernel_rfl) (by kernel_rfl) (by kernel_rfl) (fun _ _ _ h => h) rfl ?_ (by assumption) ?_; rotate_left; · (intro w' hSw; (try dsimp only at hSw); go_simp; (try with_reducible rfl))) | (refine take_off (i := 3) rfl (by kernel_rfl) (by kernel_rfl) (by kernel_rfl) (fun _ _ _ h => h) rfl (by assumption) ?_)
            (try simp only [Act.put, List.setIfInBounds_toArray, List.set_cons_zero, List.set_cons_succ])
            first | (refine take_on (i := 4) (v := ?_) rfl (by kernel_rfl) (by kernel_rfl) (by kernel_rfl) (fun _ _ _ h => h) rfl ?_ (by assumption) ?_; rotate_left; · (intro w' hSw; (try dsimp only at hSw); go_simp; (try with_reducible rfl))) | (refine take_off (i := 4) rfl (by kernel_rfl) (by kernel_rfl) (by kernel_rfl) (fun _ _ _ h => h) rfl (by assumption) ?_)
            (try simp only [Act.put, List.setIfInBounds_toArray, List.set_cons_zero, List.set_cons_succ])
            first | (refine take_on (i := 5) (v := ?_) rfl (by kernel_rfl) (by kernel_rfl) (by kernel_rfl) (fun _ _ _ h => h) rfl ?_ (by assumption) ?_; rotate_left; · (intro w' hSw; (try dsimp only at hSw); go_simp; (try with_reducible rfl))) | (refine take_off (i := 5) rfl (by kernel_rfl) (by kernel_rfl) (by kernel_rfl) (fun _ _ _ h => h) rfl (by assumption) ?_)
            (try simp only [Act.put, List.setIfInBounds_toArray, List.set_cons_zero, List.set_cons_succ])
            first | (refine take_on (i := 6) (v := ?_) rfl (by kernel_rfl) (by kernel_rfl) (by kernel_rfl) (fun _ _ _ h => h) rfl ?_ (by assumption) ?_; rotate_left; · (intro w' hSw; (try dsimp only at hSw); go_simp; (try with_reducible rfl))) | (refine take_off (i := 6) rfl (by kernel_rfl) (by kernel_rfl) (by kernel_rfl) (fun _ _ _ h => h) rfl (by assumption) ?_)
            (try simp only [Act.put, List.setIfInBounds_toArray, List.set_cons_zero, List.set_cons_succ])
            first | (refine take_on (i := 7) (v := ?_) rfl (by kernel_rfl) (by kernel_rfl) (by kernel_rfl) (fun _ _ _ h => h) rfl ?_ (by assumption) ?_; rotate_left; · (intro w' hSw; (try dsimp only at hSw); go_simp; (try with_reducible rfl))) | (refine take_off (i := 7) rfl (by kernel_rfl) (by kernel_rfl) (by kernel_rfl) (fun _ _ _ h => h) rfl (by assumption) ?_)
            (try simp only [Act.put, List.setIfInBounds_toArray, List.set_cons_zero, List.set_cons_succ])
            first | (refine take_on (i := 8) (v := ?_) rfl (by kernel_rfl) (by kernel_rfl) (by kernel_rfl) (fun _ _ _ h => h) rfl ?_ (by assumption) ?_; rotate_left; · (intro w' hSw; (try dsimp only at hSw); go_simp; (try with_reducible rfl))) | (refine take_off (i := 8) rfl (by kernel_rfl) (by kernel_rfl) (by kernel_rfl) (fun _ _ _ h => h) rfl (by assumption) ?_)
            (try simp only [Act.put, List.setIfInBounds_toArray, List.set_cons_zero, List.set_cons_succ])
            first | (refine take_on (i := 9) (v := ?_) rfl (by kernel_rfl) (by kernel_rfl) (by kernel_rfl) (fun _ _ _ h => h) rfl ?_ (by assumption) ?_; rotate_left; · (intro w' hSw; (try dsimp only at hSw); go_simp; (try with_reducible rfl))) | (refine take_off (i := 9) rfl (by kernel_rfl) (by kernel_rfl) (by kernel_rfl) (fun _ _ _ h => h) rfl (by assumption) ?_)
            (try simp only [Act.put, List.setIfInBounds_toArray, List.set_cons_zero, List.set_cons_succ])
            first | (refine take_on (i := 10) (v := ?_) rfl (by kernel_rfl) (by kernel_rfl) (by kernel_rfl) (fun _ _ _ h => h) rfl ?_ (by assumption) ?_; rotate_left; · (intro w' hSw; (try dsimp only at hSw); go_simp; (try with_reducible rfl))) | (refine take_off (i := 10) rfl (by kernel_rfl) (by kernel_rfl) (by kernel_rfl) (fun _ _ _ h => h) rfl (by assumption) ?_)
            (try simp only [Act.put, List.setIfInBounds_toArray, List.set_cons_zero, List.set_cons_succ])
            first | (refine take_on (i := 11) (v := ?_) rfl (by kernel_rfl) (by kernel_rfl) (by kernel_rfl) (fun _ _ _ h => h) rfl ?_ (by assumption) ?_; rotate_left; · (intro w' hSw; (try dsimp only at hSw); go_simp; (try with_reducible rfl))) | (refine take_off (i := 11) rfl (by kernel_rfl) (by kernel_rfl) (by kernel_rfl) (fun _ _ _ h => h) rfl (by assumption) ?_)
            (try simp only [Act.put, List.setIfInBounds_toArray, List.set_cons_zero, List.set_cons_succ])
            first | (refine take_on (i := 12) (v := ?_) rfl (by kernel_rfl) (by kernel_rfl) (by kernel_rfl) (fun _ _ _ h => h) rfl ?_ (by assumption) ?_; rotate_left; · (intro w' hSw; (try dsimp only at hSw); go_simp; (try with_reducible rfl))) | (refine take_off (i := 12) rfl (by kernel_rfl) (by kernel_rfl) (by kernel_rfl) (fun _ _ _ h => h) rfl (by assumption) ?_)
            (try simp only [Act.put, List.setIfInBounds_toArray, List.set_cons_zero, List.set_cons_succ])
            first | (refine take_on (i := 13) (v := ?_) rfl (by kernel_rfl) (by kernel_rfl) (by kernel_rfl) (fun _ _ _ h => h) rfl ?_ (by assumption) ?_; rotate_left; · (intro w' hSw; (try dsimp only at hSw); go_simp; (try with_reducible rfl))) | (refine take_off (i := 13) rfl (by kernel_rfl) (by kernel_rfl) (by kernel_rfl) (fun _ _ _ h => h) rfl (by assumption) ?_)
            (try simp only [Act.put, List.setIfInBounds_toArray, List.set_cons_zero, List.set_cons_succ])
            first | (refine take_on (i := 14) (v := ?_) rfl (by kernel_rfl) (by kernel_rfl) (by kernel_rfl) (fun _ _ _ h => h) rfl ?_ (by assumption) ?_; rotate_left; · (intro w' hSw; (try dsimp only at hSw); go_simp; (try with_reducible rfl))) | (refine take_off (i := 14) rfl (by kernel_rfl) (by kernel_rfl) (by kernel_rfl) (fun _ _ _ h => h) rfl (by assumption) ?_)
            (try simp only [Act.put, List.setIfInBounds_toArray, List.set_cons_zero, List.set_cons_succ])
            first | (refine take_on (i := 15) (v := ?_) rfl (by kernel_rfl) (by kernel_rfl) (by kernel_rfl) (fun _ _ _ h => h) rfl ?_ (by assumption) ?_; rotate_left; · (intro w' hSw; (try dsimp only at hSw); go_simp; (try with_reducible rfl))) | (refine take_off (i := 15) rfl (by kernel_rfl) (by kernel_rfl) (by kernel_rfl) (fun _ _ _ h => h) rfl (by assumption) ?_)
            (try simp only [Act.put, List.setIfInBounds_toArray, List.set_cons_zero, List.set_cons_succ])
            first | (refine take_on (i := 16) (v := ?_) rfl (by kernel_rfl) (by kernel_rfl) (by kernel_rfl) (fun _ _ _ h => h) rfl ?_ (by assumption) ?_; rotate_left; · (intro w' hSw; (try dsimp only at hSw); go_simp; (try with_reducible rfl))) | (refine take_off (i := 16) rfl (by kernel_rfl) (by kernel_rfl) (by kernel_rfl) (fun _ _ _ h => h) rfl (by assumption) ?_)
            (try simp only [Act.put, List.setIfInBounds_toArray, List.set_cons_zero, List.set_cons_succ])
            first | (refine take_on (i := 17) (v := ?_) rfl (by kernel_rfl) (by kernel_rfl) (by kernel_rfl) (fun _ _ _ h => h) rfl ?_ (by assumption) ?_; rotate_left; · (intro w' hSw; (try dsimp only at hSw); go_simp; (try with_reducible rfl))) | (refine take_off (i := 17) rfl (by kernel_rfl) (by kernel_rfl) (by kernel_rfl) (fun _ _ _ h => h) rfl (by assumption) ?_)
            (try simp only [Act.put, List.setIfInBounds_toArray, List.set_cons_zero, List.set_cons_succ])
            first | (refine take_on (i := 18) (v := ?_) rfl (by kernel_rfl) (by kernel_rfl) (by kernel_rfl) (fun _ _ _ h => h) rfl ?_ (by assumption) ?_; rotate_left; · (intro w' hSw; (try dsimp only at hSw); go_simp; (try with_reducible rfl))) | (refine take_off (i := 18) rfl (by kernel_rfl) (by kernel_rfl) (by kernel_rfl) (fun _ _ _ h => h) rfl (by assumption) ?_)
            (try simp only [Act.put, List.setIfInBounds_toArray, List.set_cons_zero, List.set_cons_succ])
            refine wpAnyH_done (by kernel_rfl) ?_ _
            go_split_ands
            go_wp2_with fail
            go_roundw
            case rel => exact ⟨j + 1 + 1, by omega, by go_num, hto2, hB.trans (Below.mono (Below.next ((Below.refl wr.heap.size wr).alloc (Nat.le_refl _) _) (by assumption)) (by omega))⟩
            case measure => simp [intOf]; omega
          · have hno : Hid (okAll xs = false) := okAll_t ka (by omega) (by have := of_decide_eq_true e2; simp only [Nat.add_sub_cancel]; omega)
            clear e1
            go_wp2_with fail
            refine wp_region_held_drew (S := (fun w' => (∀ kb ko, kb < (wr.alloc (.cells #[.int .i64 xs[j + 1].x, .int .i64 xs[j + 1].y, .int .i64 xs[j + 1].t] 58)).heap.size → w'.cell? ⟨kb, ko, none⟩ = (wr.alloc (.cells #[.int .i64 xs[j + 1].x, .int .i64 xs[j + 1].y, .int .i64 xs[j + 1].t] 58)).cell? ⟨kb, ko, none⟩) ∧ (wr.alloc (.cells #[.int .i64 xs[j + 1].x, .int .i64 xs[j + 1].y, .int .i64 xs[j + 1].t] 58)).heap.size ≤ w'.heap.size ∧ Below (wr.alloc (.cells #[.int .i64 xs[j + 1].x, .int .i64 xs[j + 1].y, .int .i64 xs[j + 1].t] 58)).heap.size (wr.alloc (.cells #[.int .i64 xs[j + 1].x, .int .i64 xs[j + 1].y, .int .i64 xs[j + 1].t] 58)) w')) (by kernel_rfl) ?_ (fun hHeld => ?_)
            · (try dsimp only); (first | exact SB.mk hkB | exact SB.mk ((Below.refl _ _).drew) | (go_split_ands; refine SB.mk (Below.drew ?_); assumption) | (refine SB.mk ?_; go_grown; done) | (go_split_ands; refine SB.mk ?_; go_grown; done))
            first | (refine take_on (i := 0) (v := ?_) rfl (by kernel_rfl) (by kernel_rfl) (by kernel_rfl) (fun _ _ _ h => h) rfl ?_ (by assumption) ?_; rotate_left; · (intro w' hSw; (try dsimp only at hSw); go_simp; (try with_reducible rfl))) | (refine take_off (i := 0) rfl (by kernel_rfl) (by kernel_rfl) (by kernel_rfl) (fun _ _ _ h => h) rfl (by assumption) ?_)
            (try simp only [Act.put, List.setIfInBounds_toArray, List.set_cons_zero, List.set_cons_succ])
            refine wpAnyH_ready (rs := [1]) (by kernel_rfl) (by simp) ?_
            refine AllReadyH.cons rfl (fun K hK => ?_) AllReadyH.nil
            rw [if_pos (by rfl)]
            go_simp
            first | (go_at_call 60; (with_reducible refine (iValidPoint_of E1 _).mono ?_); rintro e w' ⟨rfl, hb⟩; obtain ⟨_, hks, hkB⟩ := SB.next (by assumption) hb; obtain ⟨hkc, hkf⟩ := bcell hb; have hkz := hb.size; (try simp only [World.size_alloc, World.size_drew] at hkz); (first | (have hkt := Nat.lt_of_succ_le hkz) | (have hkt := Nat.lt_of_lt_of_le (by assumption) hkz) | skip); clear hb)
            refine hK.out _ _ ?_ (fun hHeld2 => ?_)
            · (try dsimp only); (first | exact SB.mk hkB | exact SB.mk ((Below.refl _ _).drew) | (go_split_ands; refine SB.mk (Below.drew ?_); assumption) | (refine SB.mk ?_; go_grown; done) | (go_split_ands; refine SB.mk ?_; go_grown; done))
            clear hK K hHeld; have hHeld := hHeld2; clear hHeld2; (try simp only [Act.put, List.setIfInBounds_toArray, List.set_cons_zero, List.set_cons_succ])
            first | (refine take_on (i := 2) (v := ?_) rfl (by kernel_rfl) (by kernel_rfl) (by kernel_rfl) (fun _ _ _ h => h) rfl ?_ (by assumption) ?_; rotate_left; · (intro w' hSw; (try dsimp only at hSw); go_simp; (try with_reducible rfl))) | (refine take_off (i := 2) rfl (by kernel_rfl) (by kernel_rfl) (by kernel_rfl) (fun _ _ _ h => h) rfl (by assumption) ?_)
            (try simp only [Act.put, List.setIfInBounds_toArray, List.set_cons_zero, List.set_cons_succ])
            first | (refine take_on (i := 3) (v := ?_) rfl (by kernel_rfl) (by kernel_rfl) (by kernel_rfl) (fun _ _ _ h => h) rfl ?_ (by assumption) ?_; rotate_left; · (intro w' hSw; (try dsimp only at hSw); go_simp; (try with_reducible rfl))) | (refine take_off (i := 3) rfl (by kernel_rfl) (by kernel_rfl) (by kernel_rfl) (fun _ _ _ h => h) rfl (by assumption) ?_)
            (try simp only [Act.put, List.setIfInBounds_toArray, List.set_cons_zero, List.set_cons_succ])
            first | (refine take_on (i := 4) (v := ?_) rfl (by kernel_rfl) (by kernel_rfl) (by kernel_rfl) (fun _ _ _ h => h) rfl ?_ (by assumption) ?_; rotate_left; · (intro w' hSw; (try dsimp only at hSw); go_simp; (try with_reducible rfl))) | (refine take_off (i := 4) rfl (by kernel_rfl) (by kernel_rfl) (by kernel_rfl) (fun _ _ _ h => h) rfl (by assumption) ?_)
            (try simp only [Act.put, List.setIfInBounds_toArray, List.set_cons_zero, List.set_cons_succ])
            first | (refine take_on (i := 5) (v := ?_) rfl (by kernel_rfl) (by kernel_rfl) (by kernel_rfl) (fun _ _ _ h => h) rfl ?_ (by assumption) ?_; rotate_left; · (intro w' hSw; (try dsimp only at hSw); go_simp; (try with_reducible rfl))) | (refine take_off (i := 5) rfl (by kernel_rfl) (by kernel_rfl) (by kernel_rfl) (fun _ _ _ h => h) rfl (by assumption) ?_)
            (try simp only [Act.put, List.setIfInBounds_toArray, List.set_cons_zero, List.set_cons_succ])
            first | (refine take_on (i := 6) (v := ?_) rfl (by kernel_rfl) (by kernel_rfl) (by kernel_rfl) (fun _ _ _ h => h) rfl ?_ (by assumption) ?_; rotate_left; · (intro w' hSw; (try dsimp only at hSw); go_simp; (try with_reducible rfl))) | (refine take_off (i := 6) rfl (by kernel_rfl) (by kernel_rfl) (by kernel_rfl) (fun _ _ _ h => h) rfl (by assumption) ?_)
            (try simp only [Act.put, List.setIfInBounds_toArray, List.set_cons_zero, List.set_cons_succ])
            first | (refine take_on (i := 7) (v := ?_) rfl (by kernel_rfl) (by kernel_rfl) (by kernel_rfl) (fun _ _ _ h => h) rfl ?_ (by assumption) ?_; rotate_left; · (intro w' hSw; (try dsimp only at hSw); go_simp; (try with_reducible rfl))) | (refine take_off (i := 7) rfl (by kernel_rfl) (by kernel_rfl) (by kernel_rfl) (fun _ _ _ h => h) rfl (by assumption) ?_)
            (try simp only [Act.put, List.setIfInBounds_toArray, List.set_cons_zero, List.set_cons_succ])
            first | (refine take_on (i := 8) (v := ?_) rfl (by kernel_rfl) (by kernel_rfl) (by kernel_rfl) (fun _ _ _ h => h) rfl ?_ (by assumption) ?_; rotate_left; · (intro w' hSw; (try dsimp only at hSw); go_simp; (try with_reducible rfl))) | (refine take_off (i := 8) rfl (by kernel_rfl) (by kernel_rfl) (by kernel_rfl) (fun _ _ _ h => h) rfl (by assumption) ?_)
            (try simp only [Act.put, List.setIfInBounds_toArray, List.set_cons_zero, List.set_cons_succ])
            first | (refine take_on (i := 9) (v := ?_) rfl (by kernel_rfl) (by kernel_rfl) (by kernel_rfl) (fun _ _ _ h => h) rfl ?_ (by assumption) ?_; rotate_left; · (intro w' hSw; (try dsimp only at hSw); go_simp; (try with_reducible rfl))) | (refine take_off (i := 9) rfl (by kernel_rfl) (by kernel_rfl) (by kernel_rfl) (fun _ _ _ h => h) rfl (by assumption) ?_)
            (try simp only [Act.put, List.setIfInBounds_toArray, List.set_cons_zero, List.set_cons_succ])
            first | (refine take_on (i := 10) (v := ?_) rfl (by kernel_rfl) (by kernel_rfl) (by kernel_rfl) (fun _ _ _ h => h) rfl ?_ (by assumption) ?_; rotate_left; · (intro w' hSw; (try dsimp only at hSw); go_simp; (try with_reducible rfl))) | (refine take_off (i := 10) rfl (by kernel_rfl) (by kernel_rfl) (by kernel_rfl) (fun _ _ _ h => h) rfl (by assumption) ?_)
            (try simp only [Act.put, List.setIfInBounds_toArray, List.set_cons_zero, List.set_cons_succ])
            first | (refine take_on (i := 11) (v := ?_) rfl (by kernel_rfl) (by kernel_rfl) (by kernel_rfl) (fun _ _ _ h => h) rfl ?_ (by assumption) ?_; rotate_left; · (intro w' hSw; (try dsimp only at hSw); go_simp; (try with_reducible rfl))) | (refine take_off (i := 11) rfl (by kernel_rfl) (by kernel_rfl) (by kernel_rfl) (fun _ _ _ h => h) rfl (by assumption) ?_)
            (try simp only [Act.put, List.setIfInBounds_toArray, List.set_cons_zero, List.set_cons_succ])
            first | (refine take_on (i := 12) (v := ?_) rfl (by kernel_rfl) (by kernel_rfl) (by kernel_rfl) (fun _ _ _ h => h) rfl ?_ (by assumption) ?_; rotate_left; · (intro w' hSw; (try dsimp only at hSw); go_simp; (try with_reducible rfl))) | (refine take_off (i := 12) rfl (by kernel_rfl) (by kernel_rfl) (by kernel_rfl) (fun _ _ _ h => h) rfl (by assumption) ?_)
            (try simp only [Act.put, List.setIfInBounds_toArray, List.set_cons_zero, List.set_cons_succ])
            first | (refine take_on (i := 13) (v := ?_) rfl (by kernel_rfl) (by kernel_rfl) (by kernel_rfl) (fun _ _ _ h => h) rfl ?_ (by assumption) ?_; rotate_left; · (intro w' hSw; (try dsimp only at hSw); go_simp; (try with_reducible rfl))) | (refine take_off (i := 13) rfl (by kernel_rfl) (by kernel_rfl) (by kernel_rfl) (fun _ _ _ h => h) rfl (by assumption) ?_)
            (try simp only [Act.put, List.setIfInBounds_toArray, List.set_cons_zero, List.set_cons_succ])
            first | (refine take_on (i := 14) (v := ?_) rfl (by kernel_rfl) (by kernel_rfl) (by kernel_rfl) (fun _ _ _ h => h) rfl ?_ (by assumption) ?_; rotate_left; · (intro w' hSw; (try dsimp only at hSw); go_simp; (try with_reducible rfl))) | (refine take_off (i := 14) rfl (by kernel_rfl) (by kernel_rfl) (by kernel_rfl) (fun _ _ _ h => h) rfl (by assumption) ?_)
            (try simp only [Act.put, List.setIfInBounds_toArray, List.set_cons_zero, List.set_cons_succ])
            first | (refine take_on (i := 15) (v := ?_) rfl (by kernel_rfl) (by kernel_rfl) (by kernel_rfl) (fun _ _ _ h => h) rfl ?_ (by assumption) ?_; rotate_left; · (intro w' hSw; (try dsimp only at hSw); go_simp; (try with_reducible rfl))) | (refine take_off (i := 15) rfl (by kernel_rfl) (by kernel_rfl) (by kernel_rfl) (fun _ _ _ h => h) rfl (by assumption) ?_)
            (try simp only [Act.put, List.setIfInBounds_toArray, List.set_cons_zero, List.set_cons_succ])
            first | (refine take_on (i := 16) (v := ?_) rfl (by kernel_rfl) (by kernel_rfl) (by kernel_rfl) (fun _ _ _ h => h) rfl ?_ (by assumption) ?_; rotate_left; · (intro w' hSw; (try dsimp only at hSw); go_simp; (try with_reducible rfl))) | (refine take_off (i := 16) rfl (by kernel_rfl) (by kernel_rfl) (by kernel_rfl) (fun _ _ _ h => h) rfl (by assumption) ?_)
            (try simp only [Act.put, List.setIfInBounds_toArray, List.set_cons_zero, List.set_cons_succ])
            first | (refine take_on (i := 17) (v := ?_) rfl (by kernel_rfl) (by kernel_rfl) (by kernel_rfl) (fun _ _ _ h => h) rfl ?_ (by assumption) ?_; rotate_left; · (intro w' hSw; (try dsimp only at hSw); go_simp; (try with_reducible rfl))) | (refine take_off (i := 17) rfl (by kernel_rfl) (by kernel_rfl) (by kernel_rfl) (fun _ _ _ h => h) rfl (by assumption) ?_)
            (try simp only [Act.put, List.setIfInBounds_toArray, List.set_cons_zero, List.set_cons_succ])
            first | (refine take_on (i := 18) (v := ?_) rfl (by kernel_rfl) (by kernel_rfl) (by kernel_rfl) (fun _ _ _ h => h) rfl ?_ (by assumption) ?_; rotate_left; · (intro w' hSw; (try dsimp only at hSw); go_simp; (try with_reducible rfl))) | (refine take_off (i := 18) rfl (by kernel_rfl) (by kernel_rfl) (by kernel_rfl) (fun _ _ _ h => h) rfl (by assumption) ?_)
            (try simp only [Act.put, List.setIfInBounds_toArray, List.set_cons_zero, List.set_cons_succ])
            refine wpAnyH_done (by kernel_rfl) ?_ _
            go_split_ands
            go_wp2_with fail
            go_ret
            exact ⟨ret_bool (strB_no hno.out), hW.trans ((Below.mono (Below.next ((Below.refl wr.heap.size wr).alloc (Nat.le_refl _) _) (by assumption))) (by omega))⟩
    · have hall : Hid (okAll xs = true) := okAll_true hto.out (by have := LA.out; omega)
      cases e1 : decide (1 ≤ n) <;> cases e2 : decide (n ≤ 60)
      all_goals go_wp2_with fail
      all_goals
        go_ret
        refine ⟨ret_bool ?_, hW⟩
        rw [← strB_len hall.out LA.out]
        simp only [decide_eq_true_eq, decide_eq_false_iff_not] at e1 e2
        rw [Bool.eq_iff_iff]
        simp
        try omega
theorem Own.chg {α : Type} {f : α → List Value} {E : TypeId} {size : Nat} {w w' : World} {base lo hi lo' hi' : Nat} {v : Value} {l : List α} (h : Own f E size w base v l) (hb : ∀ k, v.ownBlock = some k → lo' ≤ k ∧ k < hi') (hc : Chg lo hi w w') (hd : hi ≤ lo' ∨ hi' ≤ lo) : Own f E size w' base v l :=
  h.of_block fun k hk => hc.block k (h.lt k hk).2 (by have := hb k hk; omega)
end Go.Proofs.YtinlhigpmchiaaaGreatDoor
