/-
  The area of a stroke: program and reference compute the same.
-/
import Derived.Test.YtcglcfjonicjgaaStrokePlain
import Derived.Test.YtcglcfjonicjgaaValidS
namespace Go.Proofs.Ytcglcfjonicjgaa
set_option linter.unusedSimpArgs false
set_option linter.unusedVariables false
open Go.RowKit

def areaR (l : List Pt) : Int × Int := if strB l = true then (areaTo l l.length, 0) else (0, 1)

set_option maxHeartbeats 4000000 in
theorem iStrokeArea (A : Option Addr) (n c : Nat) (xs : List Pt) (w : World) (ha : Rd w A n 3 (rowOf ptC xs)) (la : xs.length = n) (hn : n ≤ 1048576) :
    Calls Try.prog 26 #[.agg #[.slice A n c]] w fun e w' => e = .returned (.tuple #[.int .i64 (areaR xs).1, .int .i64 (areaR xs).2]) ∧ Below w.heap.size w w' := by
  have hR : Hid (areaR xs = if strB xs = true then (areaTo xs xs.length, 0) else (0, 1)) := rfl
  cases h1 : strB xs
  · have HV := validStroke_any A n c xs (w.alloc (.cells #[.slice A n c] 35)) (ha.alloc _) la hn
    rw [h1] at HV
    have H1 := Lib.hid h1
    clear h1
    go_enter Try.func26, Try.ntmps26
    go_wp2_with fail
    refine HV.mono ?_
    rintro e w2 ⟨rfl, hb⟩
    go_wp2_with fail
    go_ret2
    exact ⟨by rw [hR.out, H1.out]; rfl, Below.next (by go_grown) hb⟩
  · have HV := validStroke_any A n c xs (w.alloc (.cells #[.slice A n c] 35)) (ha.alloc _) la hn
    rw [h1] at HV
    have H1 := Lib.hid h1
    obtain ⟨hn1, hn60, hpt, _⟩ := strB_true h1
    have HP : Hid (ptsB xs) := hpt
    rw [la] at hn1 hn60
    have HA := Lib.hid (ha.alloc (.cells #[.slice A n c] 35))
    have LA := Lib.hid la
    clear h1 hpt ha la
    go_enter Try.func26, Try.ntmps26
    go_wp2_with fail
    refine HV.mono ?_
    rintro e w2 ⟨rfl, hb⟩
    have hcs : w2.cell? ⟨w.heap.size, 0, none⟩ = some (.slice A n c) := (hb.cell (p := ⟨w.heap.size, 0, none⟩) (by simp)).trans (by go_simp)
    go_wp2_with fail
    go_loopw [4, 14] (fun a i wr => ∃ k : Nat, k ≤ n ∧ i = .int .i64 k ∧ a = .int .i64 (areaTo xs k) ∧ Below (w.heap.size + 1) (w.alloc (.cells #[.slice A n c] 35)) wr) (fun _ i _ => n - (intOf i).toNat)
    case atStart => exact ⟨0, Nat.zero_le _, rfl, rfl, by simpa using hb⟩
    case round =>
      obtain ⟨k, hk, rfl, rfl, hB⟩ := hrel
      have hcs : wr.cell? ⟨w.heap.size, 0, none⟩ = some (.slice A n c) := (hB.cell (p := ⟨w.heap.size, 0, none⟩) (by simp)).trans (by go_simp)
      have hws : w.heap.size < wr.heap.size := by have := hB.size; simp at this; omega
      have hW : Below w.heap.size w wr := ((Below.refl w.heap.size w).alloc (Nat.le_refl _) _).trans (hB.mono (by omega))
      by_cases hlt : k < n
      · have ka : k < xs.length := by have := LA.out; omega
        obtain ⟨b1, o1, rfl, l1, c1, c2, c3⟩ := (HA.out.below (by simpa using hB)).pt LA.out ka
        obtain ⟨q, hq, hqn⟩ : ∃ q : Nat, (k + 1) % n = q ∧ q < n := ⟨_, rfl, Nat.mod_lt _ (by omega)⟩
        have kq : q < xs.length := by have := LA.out; omega
        obtain ⟨_, _, e0, _, d1, d2, d3⟩ := (HA.out.below (by simpa using hB)).pt LA.out kq
        cases e0
        have hq2 : ((k : Int) + 1) % (n : Int) = (q : Int) := by rw [← hq]; simp
        have HQ := Lib.hid hq
        clear hq
        have hb0 := areaTo_bd HP.out k (by have := LA.out; omega)
        obtain ⟨hb1, hb2⟩ := areaTerm_bd (HP.out k ka) (HP.out q kq)
        have hn2 : Hid (areaTo xs (k + 1) = areaTo xs k + (xs[k].x * xs[q].y - xs[k].y * xs[q].x)) := areaTo_next ka kq (by rw [LA.out]; exact HQ.out)
        go_wp2_with fail
        have hw1 : IntKind.i64.wrap ((k : Int) + 1) = (k : Int) + 1 := IntWalk.i64_in _ (by omega)
        have hm1 : ((k : Int) + 1).tmod (n : Int) = (q : Int) := by rw [Int.tmod_eq_emod_of_nonneg (by omega)]; exact hq2
        have hw2 : IntKind.i64.wrap (q : Int) = (q : Int) := IntWalk.i64_in _ (by omega)
        have hq0 : (0 : Int) ≤ (q : Int) := by omega
        have hqn' : (q : Int) < (n : Int) := by omega
        have hnz : ¬ n = 0 := by omega
        go_region_held3 (fun w' => (∀ kb ko, kb < (wr.alloc (.cells #[.int .i64 xs[k].x, .int .i64 xs[k].y, .int .i64 xs[k].t] 44)).heap.size → w'.cell? ⟨kb, ko, none⟩ = (wr.alloc (.cells #[.int .i64 xs[k].x, .int .i64 xs[k].y, .int .i64 xs[k].t] 44)).cell? ⟨kb, ko, none⟩) ∧ (wr.alloc (.cells #[.int .i64 xs[k].x, .int .i64 xs[k].y, .int .i64 xs[k].t] 44)).heap.size ≤ w'.heap.size ∧ Below (wr.alloc (.cells #[.int .i64 xs[k].x, .int .i64 xs[k].y, .int .i64 xs[k].t] 44)).heap.size (wr.alloc (.cells #[.int .i64 xs[k].x, .int .i64 xs[k].y, .int .i64 xs[k].t] 44)) w') (first | exact SB.mk hkB | exact SB.mk ((Below.refl _ _).drew) | (go_split_ands; refine SB.mk (Below.drew ?_); assumption) | (refine SB.mk ?_; go_grown; done) | (go_split_ands; refine SB.mk ?_; go_grown; done)) (fail)
        go_split_ands
        clear hw1 hm1 hw2 hnz
        go_wp2_with fail
        go_roundw
        case rel => exact ⟨k + 1, by omega, by go_num, by rw [hn2.out], by first | (refine hB.trans (Below.mono ?_ (Nat.succ_le_of_lt hws)); go_grown)⟩
        case measure => simp [intOf]; omega
      · go_wp2_with fail
        go_ret2
        obtain rfl : k = n := by omega
        exact ⟨by rw [hR.out, H1.out, LA.out]; rfl, hW⟩

set_option maxHeartbeats 4000000 in
theorem l05Area_any (A : Option Addr) (n c : Nat) (xs : List Pt) (w : World) (ha : Rd w A n 3 (rowOf ptC xs)) (la : xs.length = n) (h1 : strB xs = true) :
    Calls Try.prog 61 #[.slice A n c] w fun e w' => e = .returned (.int .i64 (areaTo xs n)) ∧ Below w.heap.size w w' := by
  obtain ⟨hn1, hn60, hpt, _⟩ := strB_true h1
  have HP : Hid (ptsB xs) := hpt
  rw [la] at hn1 hn60
  have HA := Lib.hid ha
  have LA := Lib.hid la
  clear h1 hpt ha la
  go_enter Try.func61, Try.ntmps61
  go_wp2_with fail
  go_loopw [3, 4] (fun a i wr => ∃ k : Nat, k ≤ n ∧ i = .int .i64 k ∧ a = .int .i64 (areaTo xs k) ∧ Below w.heap.size w wr) (fun _ i _ => n - (intOf i).toNat)
  case atStart => exact ⟨0, Nat.zero_le _, rfl, rfl, Below.refl _ _⟩
  case round =>
    obtain ⟨k, hk, rfl, rfl, hB⟩ := hrel
    have hBs := hB.size
    by_cases hlt : k < n
    · have ka : k < xs.length := by have := LA.out; omega
      obtain ⟨b1, o1, rfl, l1, c1, c2, c3⟩ := (HA.out.below hB).pt LA.out ka
      obtain ⟨q, hq, hqn⟩ : ∃ q : Nat, (k + 1) % n = q ∧ q < n := ⟨_, rfl, Nat.mod_lt _ (by omega)⟩
      have kq : q < xs.length := by have := LA.out; omega
      obtain ⟨_, _, e0, _, d1, d2, d3⟩ := (HA.out.below hB).pt LA.out kq
      cases e0
      have hq2 : ((k : Int) + 1) % (n : Int) = (q : Int) := by rw [← hq]; simp
      have HQ := Lib.hid hq
      have hb0 := areaTo_bd HP.out k (by have := LA.out; omega)
      obtain ⟨hb1, hb2⟩ := areaTerm_bd (HP.out k ka) (HP.out q kq)
      have hn2 : Hid (areaTo xs (k + 1) = areaTo xs k + (xs[k].x * xs[q].y - xs[k].y * xs[q].x)) := areaTo_next ka kq (by rw [LA.out]; exact HQ.out)
      go_wp2_with fail
      go_roundw
      case rel => exact ⟨k + 1, by omega, by go_num, by rw [hn2.out], by go_grown⟩
      case measure => simp [intOf]; omega
    · go_wp2_with fail
      go_ret
      obtain rfl : k = n := by omega
      exact ⟨rfl, hB⟩

set_option maxHeartbeats 4000000 in
theorem sStrokeArea (A : Option Addr) (n c : Nat) (xs : List Pt) (w : World) (ha : Rd w A n 3 (rowOf ptC xs)) (la : xs.length = n) (hn : n ≤ 1048576) :
    Calls Try.prog 25 #[.agg #[.slice A n c]] w fun e w' => e = .returned (.tuple #[.int .i64 (areaR xs).1, .int .i64 (areaR xs).2]) ∧ Below w.heap.size w w' := by
  have hR : Hid (areaR xs = if strB xs = true then (areaTo xs xs.length, 0) else (0, 1)) := rfl
  have HV := l02Stroke_any w.heap.size A n c xs (w.alloc (.cells #[.slice A n c] 35)) (by go_simp) (ha.alloc _) la hn
  cases h1 : strB xs
  · rw [h1] at HV
    have H1 := Lib.hid h1
    clear h1
    go_enter Try.func25, Try.ntmps25
    go_wp2_with fail
    refine HV.mono ?_
    rintro e w2 ⟨rfl, hb⟩
    go_wp2_with fail
    go_ret2
    exact ⟨by rw [hR.out, H1.out]; rfl, Below.next (by go_grown) hb⟩
  · rw [h1] at HV
    have HA := Lib.hid (ha.alloc (.cells #[.slice A n c] 35))
    have LA := Lib.hid la
    have H1 := Lib.hid h1
    clear h1 ha la
    go_enter Try.func25, Try.ntmps25
    go_wp2_with fail
    refine HV.mono ?_
    rintro e w2 ⟨rfl, hb⟩
    have hcs : w2.cell? ⟨w.heap.size, 0, none⟩ = some (.slice A n c) := (hb.cell (p := ⟨w.heap.size, 0, none⟩) (by simp)).trans (by go_simp)
    go_wp2_with fail
    refine (l05Area_any A n c xs _ (HA.out.below hb) LA.out H1.out).mono ?_
    rintro e w3 ⟨rfl, hb3⟩
    go_wp2_with fail
    go_ret2
    exact ⟨by rw [hR.out, H1.out, LA.out]; rfl, Below.next (Below.next (by go_grown) hb) hb3⟩
end Go.Proofs.Ytcglcfjonicjgaa
